/-
  The references on openness: Partner, Open; and Same of two rows.
-/
import Derived.Test.YtkeeipfglmpgjaaOpenM
import Derived.Test.YtkeeipfglmpgjaaEq
namespace Go.Proofs.Ytkeeipfglmpgjaa
set_option linter.unusedSimpArgs false
set_option linter.unusedVariables false
open Go.RowKit

attribute [local go_sem ↓] run_load_tok run_eql_tok run_neq_tok
attribute [local go_sem] rd_drewN rd_drew aggLoad_ptr aggRes_some

theorem partR_drop (l : List Tok) (d : Int) (i j : Nat) (h : i < l.length) : partR d j (l.drop i) = if d + l[i].delta = 0 then (j : Int) else partR (d + l[i].delta) (j + 1) (l.drop (i + 1)) := by
  rw [List.drop_eq_getElem_cons h, partR]
theorem partL_take (l : List Tok) (d : Int) (i j : Nat) (h : i < l.length) : partL d j (l.take (i + 1)).reverse = if d + l[i].delta = 0 then (j : Int) else partL (d + l[i].delta) (j - 1) (l.take i).reverse := by
  rw [List.take_succ_eq_append_getElem h, List.reverse_append]
  simp only [List.reverse_cons, List.reverse_nil, List.nil_append, List.singleton_append, partL]
theorem delta_bd (t : Tok) : -1 ≤ t.delta ∧ t.delta ≤ 1 := by unfold Tok.delta; split <;> (try split) <;> omega

set_option maxHeartbeats 400000 in
set_option maxRecDepth 100000 in
theorem Partner_any (A : Option Addr) (n c B : Nat) (l : List Tok) (w : World) (i : Nat) (hn : l.length = n) (h : Sl w B 12 Tok.cells A l) (hi : i < n) (hl : n ≤ 1000000) :
    Calls Try.prog 39 #[.slice A n c, .int .i64 i] w fun e w' => e = .returned (.int .i64 (partner l i)) ∧ w = w' := by
  subst hn
  obtain ⟨b, o, rfl, _⟩ := h.addr (by omega) (by omega)
  have r : w.cell? ⟨b, o + i * 12, none⟩ = some (.int .i64 l[i].kind) := by
    have := h.cell_ hi 0 (by omega)
    simpa [Tok.cells] using this
  by_cases hk : l[i].kind = 2
  · have hb : (l[i].kind == 2) = true := by simp [hk]
    have hp : partner l i = partL 0 i (l.take (i + 1)).reverse := by unfold partner; rw [List.getElem?_eq_getElem hi]; simp [hk]
    have HP := Lib.hid hp
    clear hk hp
    go_enter Try.func39, Try.ntmps39
    go_wp2
    go_loop [6, 7] (fun d j => ∃ (x : Int) (k : Nat), k ≤ i + 1 ∧ -((i : Int) + 1 - k) ≤ x ∧ x ≤ (i : Int) + 1 - k ∧ d = .int .i64 x ∧ j = .int .i64 ((k : Int) - 1) ∧ Hid (partL x (k - 1) (l.take k).reverse = partner l i)) (fun _ j => ((intOf j) + 1).toNat)
    case atStart => exact ⟨0, i + 1, by omega, by omega, by omega, rfl, by simp, HP.out.symm⟩
    case round =>
      obtain ⟨x, k, hk, hx1, hx2, rfl, rfl, HE⟩ := hrel
      by_cases hk0 : k = 0
      · subst hk0
        have HE' := Lib.hid (HE.out : partL x (0 - 1) (l.take 0).reverse = partner l i)
        go_wp2
        go_ret
        exact ⟨ret_int (by rw [← HE'.out]; rfl), rfl⟩
      · obtain ⟨k, rfl⟩ : ∃ k', k = k' + 1 := ⟨k - 1, by omega⟩
        have hkl : k < l.length := by omega
        have r1 : w.cell? ⟨b, o + k * 12, none⟩ = some (.int .i64 l[k].kind) := by
          have := h.cell_ hkl 0 (by omega)
          simpa [Tok.cells] using this
        have HE1 := HE.out
        rw [partL_take l x k _ hkl] at HE1
        clear HE
        rcases (show l[k].kind = 1 ∨ l[k].kind = 2 ∨ (¬ l[k].kind = 1 ∧ ¬ l[k].kind = 2) from by omega) with hkd | hkd | hkd
        · have hdl : l[k].delta = 1 := by unfold Tok.delta; simp [hkd]
          have hb1 : (l[k].kind == 1) = true := by simp [hkd]
          have hb2 : (l[k].kind == 2) = false := by simp [hkd]
          rw [hdl] at HE1
          by_cases hz : x + 1 = 0
          · rw [if_pos hz] at HE1
            have HE' := Lib.hid HE1
            clear HE1 hdl hkd
            go_wp2
            go_ret
            exact ⟨ret_int (by rw [← HE'.out]; simp), rfl⟩
          · rw [if_neg hz] at HE1
            have HE' := Lib.hid HE1
            clear HE1 hdl hkd
            go_wp2
            go_round
            case rel => exact ⟨x + 1, k, by omega, by omega, by omega, by first | rfl | go_num, by first | rfl | go_num, by simpa using HE'⟩
            case measure => simp [intOf]; omega
        · have hdl : l[k].delta = -1 := by unfold Tok.delta; simp [hkd]
          have hb1 : (l[k].kind == 1) = false := by simp [hkd]
          have hb2 : (l[k].kind == 2) = true := by simp [hkd]
          rw [hdl] at HE1
          by_cases hz : x + -1 = 0
          · rw [if_pos hz] at HE1
            have HE' := Lib.hid HE1
            clear HE1 hdl hkd
            go_wp2
            go_ret
            exact ⟨ret_int (by rw [← HE'.out]; simp), rfl⟩
          · rw [if_neg hz] at HE1
            have HE' := Lib.hid HE1
            clear HE1 hdl hkd
            go_wp2
            go_round
            case rel => exact ⟨x + -1, k, by omega, by omega, by omega, by first | rfl | go_num, by first | rfl | go_num, by simpa using HE'⟩
            case measure => simp [intOf]; omega
        · have hdl : l[k].delta = 0 := by unfold Tok.delta; simp [hkd]
          have hb1 : (l[k].kind == 1) = false := by simp [hkd]
          have hb2 : (l[k].kind == 2) = false := by simp [hkd]
          rw [hdl] at HE1
          by_cases hz : x + 0 = 0
          · rw [if_pos hz] at HE1
            have HE' := Lib.hid HE1
            clear HE1 hdl hkd
            go_wp2
            go_ret
            exact ⟨ret_int (by rw [← HE'.out]; simp), rfl⟩
          · rw [if_neg hz] at HE1
            have HE' := Lib.hid HE1
            clear HE1 hdl hkd
            go_wp2
            go_round
            case rel => exact ⟨x + 0, k, by omega, by omega, by omega, by first | rfl | go_num, by first | rfl | go_num, by simpa using HE'⟩
            case measure => simp [intOf]; omega
  · have hb : (l[i].kind == 2) = false := by simp [hk]
    have hp : partner l i = partR 0 i (l.drop i) := by unfold partner; rw [List.getElem?_eq_getElem hi]; simp [hk]
    have HP := Lib.hid hp
    clear hk hp
    go_enter Try.func39, Try.ntmps39
    go_wp2
    go_loop [6, 7] (fun d j => ∃ (x : Int) (k : Nat), i ≤ k ∧ k ≤ l.length ∧ -((k : Int) - i) ≤ x ∧ x ≤ (k : Int) - i ∧ d = .int .i64 x ∧ j = .int .i64 (k : Int) ∧ Hid (partR x k (l.drop k) = partner l i)) (fun _ j => l.length - (intOf j).toNat)
    case atStart => exact ⟨0, i, by omega, by omega, by omega, by omega, rfl, by simp, HP.out.symm⟩
    case round =>
      obtain ⟨x, k, hik, hk, hx1, hx2, rfl, rfl, HE⟩ := hrel
      by_cases hkl : k < l.length
      · have r1 : w.cell? ⟨b, o + k * 12, none⟩ = some (.int .i64 l[k].kind) := by
          have := h.cell_ hkl 0 (by omega)
          simpa [Tok.cells] using this
        have HE1 := HE.out
        rw [partR_drop l x k _ hkl] at HE1
        clear HE
        rcases (show l[k].kind = 1 ∨ l[k].kind = 2 ∨ (¬ l[k].kind = 1 ∧ ¬ l[k].kind = 2) from by omega) with hkd | hkd | hkd
        · have hdl : l[k].delta = 1 := by unfold Tok.delta; simp [hkd]
          have hb1 : (l[k].kind == 1) = true := by simp [hkd]
          have hb2 : (l[k].kind == 2) = false := by simp [hkd]
          rw [hdl] at HE1
          by_cases hz : x + 1 = 0
          · rw [if_pos hz] at HE1
            have HE' := Lib.hid HE1
            clear HE1 hdl hkd
            go_wp2
            go_ret
            exact ⟨ret_int (by rw [← HE'.out]), rfl⟩
          · rw [if_neg hz] at HE1
            have HE' := Lib.hid HE1
            clear HE1 hdl hkd
            go_wp2
            go_round
            case rel => exact ⟨x + 1, k + 1, by omega, by omega, by omega, by omega, by first | rfl | go_num, by first | rfl | go_num, by simpa using HE'⟩
            case measure => simp [intOf]; omega
        · have hdl : l[k].delta = -1 := by unfold Tok.delta; simp [hkd]
          have hb1 : (l[k].kind == 1) = false := by simp [hkd]
          have hb2 : (l[k].kind == 2) = true := by simp [hkd]
          rw [hdl] at HE1
          by_cases hz : x + -1 = 0
          · rw [if_pos hz] at HE1
            have HE' := Lib.hid HE1
            clear HE1 hdl hkd
            go_wp2
            go_ret
            exact ⟨ret_int (by rw [← HE'.out]), rfl⟩
          · rw [if_neg hz] at HE1
            have HE' := Lib.hid HE1
            clear HE1 hdl hkd
            go_wp2
            go_round
            case rel => exact ⟨x + -1, k + 1, by omega, by omega, by omega, by omega, by first | rfl | go_num, by first | rfl | go_num, by simpa using HE'⟩
            case measure => simp [intOf]; omega
        · have hdl : l[k].delta = 0 := by unfold Tok.delta; simp [hkd]
          have hb1 : (l[k].kind == 1) = false := by simp [hkd]
          have hb2 : (l[k].kind == 2) = false := by simp [hkd]
          rw [hdl] at HE1
          by_cases hz : x + 0 = 0
          · rw [if_pos hz] at HE1
            have HE' := Lib.hid HE1
            clear HE1 hdl hkd
            go_wp2
            go_ret
            exact ⟨ret_int (by rw [← HE'.out]), rfl⟩
          · rw [if_neg hz] at HE1
            have HE' := Lib.hid HE1
            clear HE1 hdl hkd
            go_wp2
            go_round
            case rel => exact ⟨x + 0, k + 1, by omega, by omega, by omega, by omega, by first | rfl | go_num, by first | rfl | go_num, by simpa using HE'⟩
            case measure => simp [intOf]; omega
      · have HE' := HE.out
        rw [List.drop_eq_nil_of_le (by omega)] at HE'
        have HE' := Lib.hid HE'
        clear HE
        go_wp2
        go_ret
        exact ⟨ret_int (by rw [← HE'.out]; rfl), rfl⟩

theorem openN_step (l : List Tok) (kd : Int) (k : Nat) : ((List.range (k + 1)).filter (loose l kd)).length = ((List.range k).filter (loose l kd)).length + if loose l kd k then 1 else 0 := by
  rw [List.range_succ, List.filter_append, List.length_append]
  cases h : loose l kd k <;> simp [List.filter_cons, h]

set_option maxHeartbeats 400000 in
set_option maxRecDepth 100000 in
theorem Open_any (A : Option Addr) (n c B : Nat) (l : List Tok) (kd : Int) (w : World) (hn : l.length = n) (h : Sl w B 12 Tok.cells A l) (hl : n ≤ 1000000) :
    Calls Try.prog 11 #[.slice A n c, .int .i64 kd] w fun e w' => e = .returned (.int .i64 (openN l kd)) ∧ w = w' := by
  subst hn
  go_enter Try.func11, Try.ntmps11
  go_wp2_with fail
  go_loop [5, 6] (fun m j => ∃ (x k : Nat), k ≤ l.length ∧ x ≤ k ∧ m = .int .i64 (x : Int) ∧ j = .int .i64 (k : Int) ∧ Hid (x = ((List.range k).filter (loose l kd)).length)) (fun _ j => l.length - (intOf j).toNat)
  case atStart => exact ⟨0, 0, by omega, by omega, rfl, rfl, rfl⟩
  case round =>
    obtain ⟨x, k, hk, hx, rfl, rfl, HE⟩ := hrel
    by_cases hkl : k < l.length
    · obtain ⟨b, o, rfl, _⟩ := h.addr (by omega) (by omega)
      have r1 : w.cell? ⟨b, o + k * 12, none⟩ = some (.int .i64 l[k].kind) := by
        have := h.cell_ hkl 0 (by omega)
        simpa [Tok.cells] using this
      have hst := openN_step l kd k
      have hlo : loose l kd k = decide (l[k].kind = kd ∧ partner l k < 0) := by unfold loose; rw [List.getElem?_eq_getElem hkl]; simp
      rw [hlo] at hst
      clear hlo
      by_cases hkd : l[k].kind = kd
      · have hb : (l[k].kind == kd) = true := by simp [hkd]
        by_cases hpn : partner l k < 0
        · have hb2 : decide (partner l k < 0) = true := by simp [hpn]
          have hst2 : ((List.range (k + 1)).filter (loose l kd)).length = ((List.range k).filter (loose l kd)).length + 1 := by rw [hst]; simp [hkd, hpn]
          have HS := Lib.hid hst2
          clear hst hst2 hkd
          go_wp2_with fail
          refine (Partner_any _ _ _ _ l w k rfl h hkl hl).mono ?_
          rintro e w' ⟨rfl, rfl⟩
          go_wp2
          go_round
          case rel => exact ⟨x + 1, k + 1, by omega, by omega, by go_num, by go_num, by have := HS.out; rw [← HE.out] at this; exact this.symm⟩
          case measure => simp [intOf]; omega
        · have hb2 : decide (partner l k < 0) = false := by simp [hpn]
          have hst2 : ((List.range (k + 1)).filter (loose l kd)).length = ((List.range k).filter (loose l kd)).length := by rw [hst]; simp [hpn]
          have HS := Lib.hid hst2
          clear hst hst2 hkd
          go_wp2_with fail
          refine (Partner_any _ _ _ _ l w k rfl h hkl hl).mono ?_
          rintro e w' ⟨rfl, rfl⟩
          go_wp2
          go_round
          case rel => exact ⟨x, k + 1, by omega, by omega, by go_num, by go_num, by have := HS.out; rw [← HE.out] at this; exact this.symm⟩
          case measure => simp [intOf]; omega
      · have hb : (l[k].kind == kd) = false := by simp [hkd]
        have hst2 : ((List.range (k + 1)).filter (loose l kd)).length = ((List.range k).filter (loose l kd)).length := by rw [hst]; simp [hkd]
        have HS := Lib.hid hst2
        clear hst hst2 hkd
        go_wp2
        go_round
        case rel => exact ⟨x, k + 1, by omega, by omega, by go_num, by go_num, by have := HS.out; rw [← HE.out] at this; exact this.symm⟩
        case measure => simp [intOf]; omega
    · obtain rfl : k = l.length := by omega
      go_wp2
      go_ret
      exact ⟨ret_int (by rw [HE.out]; rfl), rfl⟩
end Go.Proofs.Ytkeeipfglmpgjaa
