/-
  Numbers and their words: what the program's functions give, and what the document's.
-/
import Derived.Test.YtijpdbjcmnpobaaDoorStr
import Derived.Test.YtijpdbjcmnpobaaDoorNumLaw
import Derived.WalkKit
import Derived.BigCall
import Derived.BigGuard
import Derived.Lib.Strings
import Derived.Lib.AtoiErrMem
import Derived.Laws.IdiomStrings
import Derived.Lib.SmallJoins
namespace Go.Proofs.YtijpdbjcmnpobaaDoor
set_option linter.unusedSimpArgs false
set_option linter.unusedVariables false
open Go.RowKit
open Go.Lib hiding intOf

theorem var_below {P : Program} {w w' : World} {name : String} {x : Array Value} (h : w.var? P name = some x) (b : Below w.heap.size w w') : w'.var? P name = some x := by
  unfold World.var? at *
  cases hg : P.globalNamed name with
  | none => rw [hg] at h; cases h
  | some g =>
    rw [hg] at h
    simp only [Option.bind_some] at h ⊢
    cases hh : w.heap[g]? with
    | none => rw [hh] at h; cases h
    | some o =>
      have hlt : g < w.heap.size := by
        rcases Nat.lt_or_ge g w.heap.size with h1 | h1
        · exact h1
        · rw [Array.getElem?_eq_none h1] at hh; cases hh
      rw [b.block g hlt]
      exact h
/-- What the library's variables hold. -/
structure LibAt (w : World) : Prop where
  tab : Lib.TabIs Tryd.prog w "internal/strconv.uint64pow10" .u64 Lib.pow10Tab
  syn : ∃ tp p, w.var? Tryd.prog "strconv.ErrSyntax" = some #[.iface tp p]
  rng : ∃ tp p, w.var? Tryd.prog "strconv.ErrRange" = some #[.iface tp p]
theorem LibAt.below {w w' : World} (h : LibAt w) (b : Below w.heap.size w w') : LibAt w' :=
  ⟨var_below h.tab b, h.syn.imp fun _ h => h.imp fun _ h => var_below h b, h.rng.imp fun _ h => h.imp fun _ h => var_below h b⟩

def numT : Option Int → Value
  | some v => .tuple #[.int .i64 v, .bool true]
  | none => .tuple #[.int .i64 0, .bool false]
theorem itoa_w (n : Int) (h0 : -9223372036854775808 ≤ n) (h1 : n ≤ 9223372036854775807) (w : World) (hw : LibAt w) :
    Calls Tryd.prog 43 #[.int .i64 n] w fun e w' => e = .returned (.string ⟨(itoa n).toArray⟩) ∧ Below w.heap.size w w' := by
  refine (Tryd.strconv_Itoa n h0 h1 w hw.tab).mono ?_
  rintro e w' ⟨rfl, k, os, rfl⟩
  refine ⟨rfl, rfl, rfl, rfl, by show w.heap.size ≤ (w.heap ++ os).size; rw [Array.size_append]; omega, fun j hj => ?_⟩
  show (w.heap ++ os)[j]? = w.heap[j]?
  rw [Array.getElem?_append_left hj]
theorem ba_toList (s : ByteArray) : s.toList = s.data.toList := ByteArray.toList_eq s
theorem below_ok {w W : World} {t : Nat} (h : W = w ∨ ∃ s, W = Lib.bytesWorld w t s) : Below w.heap.size w W := by
  rcases h with rfl | ⟨s, rfl⟩
  · exact Below.refl _ _
  · exact Lib.bytesWorld_below _ _ _
theorem show_w (n : Int) (h0 : -9223372036854775808 ≤ n) (h1 : n ≤ 9223372036854775807) (w : World) (hw : LibAt w) :
    Calls Tryd.prog 15 #[.int .i64 n] w fun e w' => e = .returned (.string ⟨(itoa n).toArray⟩) ∧ Below w.heap.size w w' := by
  go_enter Tryd.func15, Tryd.ntmps15
  go_wp2_with (go_at_call 43; refine (itoa_w n h0 h1 _ hw).mono ?_; rintro e w1 ⟨rfl, b1⟩)
  go_ret
  exact ⟨rfl, b1⟩
theorem num_w (s : ByteArray) (hs : s.size ≤ 281474976710656) (w : World) (hw : LibAt w) :
    Calls Tryd.prog 13 #[.string s] w fun e w' => e = .returned (numT (numV s.data.toList)) ∧ Below w.heap.size w w' := by
  cases h : atoiAll s.data.toList with
  | ok v =>
    have hv : -9223372036854775808 ≤ v ∧ v ≤ 9223372036854775807 := atoiAll_bounds h
    have hst := ba_toList s
    cases hq : (itoa v == s.toList) with
    | true =>
      have hr : numV s.data.toList = some v := by simp only [numV, h]; rw [if_pos]; rw [← hst]; simpa using hq
      rw [hr]
      clear hst
      go_enter Tryd.func13, Tryd.ntmps13
      go_wp2_with (first | (go_at_call 42; refine (Tryd.strconv_Atoi_ok s (by omega) v h _).mono ?_; rintro e W1 ⟨rfl, hW1⟩; have b1 := below_ok hW1; clear hW1) | (go_at_call 43; refine (itoa_w v hv.1 hv.2 _ (hw.below b1)).mono ?_; rintro e W2 ⟨rfl, b2⟩))
      go_ret2
      exact ⟨rfl, b1.trans (b2.mono b1.size)⟩
    | false =>
      have hr : numV s.data.toList = none := by simp only [numV, h]; rw [if_neg]; rw [← hst]; simpa using hq
      rw [hr]
      clear hst
      go_enter Tryd.func13, Tryd.ntmps13
      go_wp2_with (first | (go_at_call 42; refine (Tryd.strconv_Atoi_ok s (by omega) v h _).mono ?_; rintro e W1 ⟨rfl, hW1⟩; have b1 := below_ok hW1; clear hW1) | (go_at_call 43; refine (itoa_w v hv.1 hv.2 _ (hw.below b1)).mono ?_; rintro e W2 ⟨rfl, b2⟩))
      go_ret2
      exact ⟨rfl, b1.trans (b2.mono b1.size)⟩
  | range =>
    have hr : numV s.data.toList = none := by simp only [numV, h]
    rw [hr]
    obtain ⟨tp, p, hv⟩ := hw.rng
    go_enter Tryd.func13, Tryd.ntmps13
    go_wp2_with (go_at_call 42; refine (Tryd.strconv_Atoi_range_var s hs h tp p _ hv).mono ?_; rintro e W1 ⟨N, rfl, -, -, hb⟩)
    go_ret2
    exact ⟨rfl, hb⟩
  | _ =>
    have hr : numV s.data.toList = none := by simp only [numV, h]
    rw [hr]
    obtain ⟨tp, p, hv⟩ := hw.syn
    go_enter Tryd.func13, Tryd.ntmps13
    go_wp2_with (go_at_call 42; refine (Tryd.strconv_Atoi_syntax_var s hs h tp p _ hv).mono ?_; rintro e W1 ⟨N, rfl, -, -, hb⟩)
    go_ret2
    exact ⟨rfl, hb⟩
theorem conv_one (wr : World) (b : UInt8) (i : Int) (hi : i = (b.toNat : Int)) : Sem.run Tryd.prog (convert 27 9 (Value.slice (some ⟨wr.heap.size, 0, none⟩) 1 1)) (wr.alloc (Obj.cells #[Value.int IntKind.u8 i] 5)) = .ok (.string ⟨#[b]⟩) (wr.alloc (Obj.cells #[Value.int IntKind.u8 i] 5)) := by
  subst hi
  exact run_convert_bytes_back _ 27 9 5 ⟨wr.heap.size, 0, none⟩ 1 [b] Tryd.underlying27 Tryd.underlying5 Tryd.underlying9 (fun j hj => by
    have : j = 0 := by simpa using hj
    subst this
    show (wr.alloc _).cell? ⟨wr.heap.size, 0 + 0, none⟩ = _
    rw [World.cell?_alloc_mark]; rfl)
set_option maxRecDepth 100000 in
theorem digits_w (x0 : Nat) (hx : x0 < 18446744073709551616) (w : World) :
    Calls Tryd.prog 44 #[.int .u64 x0] w fun e w' => e = .returned (.string ⟨(decDigits x0).toArray⟩) ∧ Below w.heap.size w w' := by
  go_enter Tryd.func44, Tryd.ntmps44
  go_wp2
  go_loopw [0, 3, 4] (fun xv sv iv wr => ∃ x k l, xv = .int .u64 (x : Nat) ∧ sv = .string ⟨(l : List UInt8).toArray⟩ ∧ iv = .int .i64 (k : Nat) ∧ digInv x0 x k l ∧ x < 18446744073709551616 ∧ k + digLeft x ≤ 21 ∧ l.length = k ∧ Below w.heap.size w wr) (fun xv _ iv _ => 2 * (intOf xv).toNat + (1 - (intOf iv).toNat))
  case atStart => exact ⟨x0, 0, [], rfl, rfl, rfl, .inl ⟨rfl, rfl, rfl⟩, hx, by have := digLeft_le hx; omega, rfl, Below.refl _ _⟩
  case round =>
    obtain ⟨x, k, l, rfl, rfl, rfl, hI, hx1, hk, hl, hb⟩ := hrel
    by_cases hgo : k = 0 ∨ 0 < x
    · have hI2 := digInv_step hI hgo
      have hL : digLeft (x / 10) + (k + 1) ≤ 21 := by
        rcases Nat.eq_zero_or_pos x with h0 | h0
        · subst h0; simp [digLeft] at *; omega
        · have := digLeft_step x h0; omega
      obtain ⟨a, ha⟩ : ∃ a : Int, (x : Int) = a := ⟨_, rfl⟩
      have w1 : IntKind.u64.wrap (48 + a % 10) = 48 + a % 10 := by rw [IntKind.wrap_u64]; omega
      have w2 : IntKind.u8.wrap (48 + a % 10) = 48 + a % 10 := by rw [IntKind.wrap_u8]; omega
      have hnl : ¬ 9223372036854775807 < 1 + l.length := by omega
      have a0 : 0 ≤ a := by omega
      have hcv := conv_one wr (UInt8.ofNat (48 + x % 10)) (48 + a % 10) (by rw [dig_toNat _ (Nat.mod_lt x (by omega))]; omega)
      obtain ⟨c, hc⟩ : ∃ c, UInt8.ofNat (48 + x % 10) = c := ⟨_, rfl⟩
      rw [hc] at hcv hI2
      have H := Lib.hid (And.intro hI2 (And.intro hL (And.intro ha (And.intro hx1 (And.intro hk (And.intro hl hb))))))
      have hfin : ∀ (i j : Int), i = (k : Int) + 1 → j = (k : Int) → (∃ x k l_1, Value.int IntKind.u64 (IntKind.u64.wrap (a.tdiv 10)) = Value.int IntKind.u64 ((x : Nat) : Int) ∧ Value.string ({ data := #[c] } ++ { data := l.toArray }) = Value.string { data := (l_1 : List UInt8).toArray } ∧ Value.int IntKind.i64 i = Value.int IntKind.i64 ((k : Nat) : Int) ∧ digInv x0 x k l_1 ∧ x < 18446744073709551616 ∧ k + digLeft x ≤ 21 ∧ l_1.length = k ∧ Below w.heap.size w (wr.alloc (Obj.cells #[Value.int IntKind.u8 (48 + a % 10)] 5))) ∧ 2 * (RowKit.intOf (Value.int IntKind.u64 (IntKind.u64.wrap (a.tdiv 10)))).toNat + (1 - (RowKit.intOf (Value.int IntKind.i64 i)).toNat) < 2 * (RowKit.intOf (Value.int IntKind.u64 a)).toNat + (1 - (RowKit.intOf (Value.int IntKind.i64 j)).toNat) := by
        rintro i j rfl rfl
        have e1 : IntKind.u64.wrap (a.tdiv 10) = ((x / 10 : Nat) : Int) := by rw [Int.tdiv_eq_ediv_of_nonneg a0, IntKind.wrap_u64]; omega
        rw [e1]
        refine ⟨⟨x / 10, k + 1, c :: l, rfl, ?_, by simp, hI2, by omega, by omega, by simp; omega, hb.alloc hb.size _⟩, ?_⟩
        · have : (⟨#[c]⟩ ++ ⟨l.toArray⟩ : ByteArray).data = (c :: l).toArray := by
            apply Array.ext'
            rw [ByteArray.data_append, Array.toList_append]
            simp
          exact congrArg Value.string (by
            have h2 : (⟨#[c]⟩ ++ ⟨l.toArray⟩ : ByteArray) = ⟨(⟨#[c]⟩ ++ ⟨l.toArray⟩ : ByteArray).data⟩ := rfl
            rw [h2, this])
        · simp only [RowKit.intOf]; omega
      rw [ha]
      rcases Nat.eq_zero_or_pos k with h0 | h0
      · have HF := Lib.hid hfin
        clear hI2 hL hx1 hk hl hgo hI hx ha hc hfin
        subst h0
        go_wp2
        exact HF.out _ _ rfl rfl
      · have hx0 : 0 < a := by omega
        have hk0 : decide ((k : Int) = 0) = false := by simp; omega
        have hk1 : IntKind.i64.wrap ((k : Int) + 1) = (k : Int) + 1 := by rw [IntKind.wrap_i64]; omega
        have HF := Lib.hid hfin
        clear hI2 hL hx1 hk hl hgo hI hx ha hc hfin
        go_wp2
        exact HF.out _ _ rfl rfl
    · have hl2 := digInv_end hI hgo
      have h0 : x = 0 := by omega
      have hk1 : 0 < k := by omega
      have hk2 : ¬ k = 0 := by omega
      subst h0
      subst hl2
      clear hI hk hx hx1 hgo
      go_wp2
      go_ret
      exact ⟨rfl, hb⟩
end Go.Proofs.YtijpdbjcmnpobaaDoor
