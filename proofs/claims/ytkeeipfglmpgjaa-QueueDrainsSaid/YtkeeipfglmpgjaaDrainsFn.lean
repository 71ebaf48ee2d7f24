/-
  QueueDrains' own functions.
-/
import Derived.Test.YtkeeipfglmpgjaaSortQ
namespace Go.Proofs.Ytkeeipfglmpgjaa
set_option linter.unusedSimpArgs false
set_option linter.unusedVariables false
open Go.RowKit
attribute [local go_sem ↓] run_load_r4 run_store_r4
attribute [local go_sem] rd_drewN rd_drew aggLoad_ptr aggRes_some

theorem Key_any (W : World) (kb : Nat) (KA : Option Addr) (kn kc B : Nat) (keys : List Int) (i : Nat) (hb : Boxed W kb 64 (.slice KA kn kc)) (hn : keys.length = kn) (hs : Sl W B 1 intC KA keys) (hi : i < kn) (hk : kn ≤ 1000000) (v : Int) (hv : keys[i]? = some v) :
    Calls Try.prog 25 #[.int .i64 i, .pointer (some ⟨kb, 0, none⟩)] W fun e W' => e = .returned (.int .i64 v) ∧ W = W' := by
  have hc := hb.cell
  obtain ⟨hk', hkv⟩ := List.getElem?_eq_some_iff.1 hv
  obtain ⟨b, o, rfl, _⟩ := hs.addr (by omega) (by omega)
  have r0 : W.cell? ⟨b, o + i, none⟩ = some (.int .i64 (keys[i]'hk')) := hs.cell1 hk'
  rw [hkv] at r0
  clear hkv hv hb hs hk'
  go_enter Try.func25, Try.ntmps25
  go_wp2
  go_ret
  exact ⟨rfl, rfl⟩

theorem run_eq_pair (x : Int × Int) (w : World) : (binOp .eql 60 (.agg (pairC x).toArray) (.agg #[.int .i64 x.1, .int .i64 x.2])).run Try.prog w = .ok (.bool true) w := by
  simp [pairC, run_eql_struct, go_sem]
attribute [local go_sem ↓] run_eq_pair

/-- What the four captured variables hold. -/
def GJ (b15 b14 b9 b3 : Nat) (WA : Option Addr) (wn wc most : Nat) (ob : Nat) (want : List (Int × Int)) (p : Nat) (W : World) : Prop :=
  Boxed W b15 4 (.bool true) ∧ Boxed W b14 3 (.int .i64 p) ∧ Boxed W b9 56 (.slice WA wn wc) ∧ Own W ob 60 2 pairC (.slice WA wn wc) want ∧ Boxed W b3 5 (.int .u8 most)

set_option maxHeartbeats 1000000 in
theorem Yield_any (W : World) (b15 b14 b9 b3 : Nat) (WA : Option Addr) (wn wc most ob : Nat) (want : List (Int × Int)) (p : Nat) (x : Int × Int) (h : GJ b15 b14 b9 b3 WA wn wc most ob want p W) (hx : want[p]? = some x) (hw : wn ≤ 1000) (hm : most < 256) (h1 : b15 ≠ b14) :
    Calls Try.prog 27 #[.int .i64 x.1, .int .i64 x.2, .pointer (some ⟨b15, 0, none⟩), .pointer (some ⟨b14, 0, none⟩), .pointer (some ⟨b9, 0, none⟩), .pointer (some ⟨b3, 0, none⟩)] W fun e W' =>
      e = .returned (.bool (decide (p + 1 < most))) ∧ GJ b15 b14 b9 b3 WA wn wc most ob want (p + 1) W' ∧ W' = (W.setCell ⟨b15, 0, none⟩ (.bool true)).setCell ⟨b14, 0, none⟩ (.int .i64 (p + 1 : Nat)) := by
  obtain ⟨g1, g2, g3, g4, g5⟩ := h
  have c1 := g1.cell
  have f1 := g1.frozen
  have c2 := g2.cell
  have f2 := g2.frozen
  have c3 := g3.cell
  have c5 := g5.cell
  have hlen := g4.cap.2
  have hp : p < wn := by
    have := (List.getElem?_eq_some_iff.1 hx).1
    omega
  obtain ⟨g, rfl, _⟩ := g4.addr0 (by omega)
  have rr := g4.sl'.rd_at hx
  have hd : decide (p < wn) = true := by simpa using hp
  have hd2 : decide ((p : Int) < (wn : Int)) = true := by simpa using hp
  have n1 : b14 ≠ b15 := fun e => h1 e.symm
  have n3 : b9 ≠ b15 := Blk.ne_ g3 g1 (by decide)
  have n3' : b9 ≠ b14 := Blk.ne_ g3 g2 (by decide)
  have n5 : b3 ≠ b15 := Blk.ne_ g5 g1 (by decide)
  have n5' : b3 ≠ b14 := Blk.ne_ g5 g2 (by decide)
  have HG := Lib.hid (And.intro g1 (And.intro g2 (And.intro g3 (And.intro g4 g5))))
  clear g1 g2 g3 g4 g5 hx hlen
  have fin : ∀ b : Bool, Hid (GJ b15 b14 b9 b3 (some ⟨g, 0, none⟩) wn wc most ob want (p + 1) ((W.setCell ⟨b15, 0, none⟩ (.bool true)).setCell ⟨b14, 0, none⟩ (.int .i64 (p + 1 : Nat)))) := fun _ => by
    obtain ⟨g1, g2, g3, g4, g5⟩ := HG.out
    refine ⟨Blk.far (p := ⟨b14, 0, none⟩) (g1.set _) h1 _, Boxed.set _ (Blk.far (p := ⟨b15, 0, none⟩) g2 n1 (.bool true)), Blk.far (p := ⟨b14, 0, none⟩) (Blk.far (p := ⟨b15, 0, none⟩) g3 n3 _) n3' _, ?_, Blk.far (p := ⟨b14, 0, none⟩) (Blk.far (p := ⟨b15, 0, none⟩) g5 n5 _) n5' _⟩
    refine g4.kept fun k hk => ?_
    rw [Below.heap_setCell _ _ _ _ (fun e => own_blk_ne (t := 3) (g := b14) g4.2 g2 (by decide) (by rw [hk]; exact congrArg some e)), Below.heap_setCell _ _ _ _ (fun e => own_blk_ne (t := 4) (g := b15) g4.2 g1 (by decide) (by rw [hk]; exact congrArg some e))]
  have FIN := fin true
  clear fin
  go_enter Try.func27, Try.ntmps27
  go_wp2
  go_ret
  have e1 : ((p + 1 : Nat) : Int) = (p : Int) + 1 := by omega
  rw [e1] at FIN
  rw [e1]
  exact ⟨ret_bool (by apply decide_eq_decide.2; omega), FIN.out, rfl⟩

/-- One call of it keeps the queue that is drained. -/
theorem Yield_KD (W : World) (b15 b14 base Q bx : Nat) (v : Value) (p : Int) (h1 : Boxed W b15 4 (.bool true)) (h2 : Boxed W b14 3 (.int .i64 p)) (u u' : Value) : KD base Q bx W ((W.setCell ⟨b15, 0, none⟩ u).setCell ⟨b14, 0, none⟩ u') := by
  intro xs cm hd
  have n1 : b14 ≠ b15 := Blk.ne_ h2 h1 (by decide)
  refine ⟨(hd.1.setCell_blk h1 (by decide) (by decide) _ _).setCell_blk (t := 3) (Blk.far (p := ⟨b15, 0, none⟩) h2 n1 _) (by decide) (by decide) _ _, ?_⟩
  exact Blk.far (p := ⟨b14, 0, none⟩) (Blk.far (p := ⟨b15, 0, none⟩) hd.2 (Blk.ne_ hd.2 h1 (by decide)) _) (Blk.ne_ hd.2 h2 (by decide)) _

/-- Things of one key are told in their order. -/
theorem drains_same : ∀ (n : Nat) (xs : List One) (came : Int), Came xs came → xs.length = n → (∀ x ∈ xs, x.key = 0) → drains n xs = xs := by
  intro n
  induction n with
  | zero => intro xs came _ h _; rw [List.eq_nil_of_length_eq_zero h]; rfl
  | succ n ih =>
    intro xs came hc hl hk
    obtain ⟨x, r, rfl⟩ : ∃ x r, xs = x :: r := by
      cases xs with
      | nil => simp at hl
      | cons x r => exact ⟨x, r, rfl⟩
    have hmin : ∀ y ∈ x :: r, lessB y x = false := fun y hy => by
      obtain ⟨b, hb, rfl⟩ := List.mem_iff_getElem.1 hy
      have k1 := hk _ (List.getElem_mem hb)
      have k2 := hk x (by simp)
      rw [lessB_false]
      by_cases h0 : b = 0
      · subst h0; right; simp
      · have := hc.1 0 b (by simp) hb (by omega)
        simp only [List.getElem_cons_zero] at this
        omega
    obtain ⟨hp, he⟩ := pick_is hc (by simp) hmin
    have hp0 : pick (x :: r) = 0 := by
      rcases Nat.eq_zero_or_pos (pick (x :: r)) with h | h
      · exact h
      · have := hc.1 0 _ (by simp) hp h
        rw [← he] at this
        simp at this
    show at_ (x :: r) (pick (x :: r)) :: drains n ((x :: r).eraseIdx (pick (x :: r))) = _
    rw [hp0]
    have hce := hc.erase 0
    rw [List.eraseIdx_zero, List.tail_cons] at hce
    rw [List.eraseIdx_zero, List.tail_cons, ih r came hce (by simpa using hl) (fun y hy => hk y (by simp [hy]))]
    rfl
theorem drain_zero (l : List Int) : (drain (qOf zf l)).map (·.thing) = l := by
  have h : drain (qOf zf l) = qOf zf l := drains_same _ _ _ (qOf_came zf l) rfl (fun x hx => by
    unfold qOf at hx
    obtain ⟨p, _, rfl⟩ := List.mem_map.1 hx
    rfl)
  rw [h]
  unfold qOf
  rw [List.map_map]
  show List.map (fun p : Int × Nat => p.1) _ = _
  exact List.zipIdx_map_fst 0 l
end Go.Proofs.Ytkeeipfglmpgjaa
