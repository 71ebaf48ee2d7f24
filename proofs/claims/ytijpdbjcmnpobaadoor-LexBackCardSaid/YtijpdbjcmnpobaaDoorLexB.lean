/-
  What is lexed, shown, and lexed again: plain lemmas, no program in sight.
-/
import Derived.Test.YtijpdbjcmnpobaaDoorLx8
namespace Go.Proofs.YtijpdbjcmnpobaaDoor
set_option linter.unusedSimpArgs false
set_option linter.unusedVariables false
set_option maxRecDepth 100000
open Go.Lib hiding intOf

theorem bz_app (p u : List UInt8) (k : Nat) : bz (p ++ u) (p.length + k) = bz u k := by
  unfold bz
  simp only [List.length_append]
  by_cases h : k < u.length
  · rw [if_pos (by omega), if_pos h]
    congr 2
    rw [List.getD_eq_getElem?_getD, List.getD_eq_getElem?_getD, List.getElem?_append_right (by omega), show p.length + k - p.length = k by omega]
  · rw [if_neg (by omega), if_neg h]
theorem bz_app0 (p u : List UInt8) : bz (p ++ u) p.length = bz u 0 := bz_app p u 0
theorem bz_pre {v : List UInt8} (w : List UInt8) {k : Nat} (h : k < v.length) : bz (v ++ w) k = bz v k := by
  unfold bz
  rw [if_pos (by rw [List.length_append]; omega), if_pos h]
  congr 2
  rw [List.getD_eq_getElem?_getD, List.getD_eq_getElem?_getD, List.getElem?_append_left h]
theorem numL_shift (p u : List UInt8) (k : Nat) : numL (p ++ u) (p.length + k) = ((numL u k).1, p.length + (numL u k).2) := by
  unfold numL
  rw [show p.length + k + 1 = p.length + (k + 1) by omega, show p.length + k + 2 = p.length + (k + 2) by omega]
  simp only [bz_app]
  repeat' split
  all_goals rfl
theorem numL_pre {v : List UInt8} (w : List UInt8) {k q : Nat} {o : Option Int} (h : numL v k = (o, q)) (hq : q < v.length) : numL (v ++ w) k = (o, q) := by
  unfold numL at h ⊢
  by_cases h0 : digitZ (bz v k) = true
  · have l0 := digit_lt h0
    rw [bz_pre w l0, if_pos h0]
    rw [if_pos h0] at h
    by_cases h1 : digitZ (bz v (k + 1)) = true
    · have l1 := digit_lt h1
      rw [if_pos h1] at h
      rw [bz_pre w l1, if_pos h1]
      by_cases h2 : bz v k = 48
      · rw [if_pos h2] at h ⊢; exact h
      · rw [if_neg h2] at h ⊢
        have l2 : k + 2 < v.length := by
          by_cases h3 : digitZ (bz v (k + 2)) = true
          · exact digit_lt h3
          · rw [if_neg h3] at h; injection h with _ h; omega
        rw [bz_pre w l2]; exact h
    · have l1 : k + 1 < v.length := by
        rw [if_neg h1] at h; injection h with _ h; omega
      rw [bz_pre w l1, if_neg h1]
      rw [if_neg h1] at h
      exact h
  · rw [if_neg h0] at h
    have : k < v.length := by injection h with _ h; omega
    rw [bz_pre w this, if_neg h0]; exact h
theorem numR_okD {s : List UInt8} {i q : Nat} {low v : Int} (h : numR s i low = .ok (v, q)) : numL s i = (some v, q) ∧ ¬ (v < low ∨ 20 < v) := by
  unfold numR at h
  split at h
  · cases h
  · rename_i n q' hn
    split at h
    · cases h
    · rename_i hv
      injection h with h; injection h with h1 h2; subst h1; subst h2
      exact ⟨hn, hv⟩
theorem numR_pre {v : List UInt8} (w : List UInt8) {i q : Nat} {low n : Int} (h : numR v i low = .ok (n, q)) (hq : q < v.length) : numR (v ++ w) i low = .ok (n, q) := by
  have := numR_okD h
  exact numR_ok (numL_pre w this.1 hq) this.2
theorem numR_shift {p u : List UInt8} {k q : Nat} {low n : Int} (h : numR u k low = .ok (n, q)) : numR (p ++ u) (p.length + k) low = .ok (n, p.length + q) := by
  have := numR_okD h
  refine numR_ok ?_ this.2
  rw [numL_shift, this.1]
/-- What a count reads. -/
inductive CountIs (s : List UInt8) (i : Nat) (n m : Int) (q : Nat) : Prop
  | from_ (p : Nat) : numR s (i + 1) 0 = .ok (n, p) → bz s p = 44 → bz s (p + 1) = 125 → m = -1 → q = p + 2 → CountIs s i n m q
  | both (p r : Nat) : numR s (i + 1) 0 = .ok (n, p) → bz s p = 44 → ¬ bz s (p + 1) = 125 → numR s (p + 1) (if 1 > n then 1 else n) = .ok (m, r) → bz s r = 125 → q = r + 1 → CountIs s i n m q
  | one (p : Nat) : numR s (i + 1) 0 = .ok (n, p) → bz s p = 125 → n ≠ 0 → m = n → q = p + 1 → CountIs s i n m q
theorem countIs_ok {s : List UInt8} {i q : Nat} {n m : Int} (h : CountIs s i n m q) : countR s i = .ok (⟨5, i, n, m, []⟩, q) := by
  cases h with
  | from_ p h h1 h2 hm hq => subst hm; subst hq; unfold countR; rw [h]; simp only; rw [if_pos h1, if_pos h2]
  | both p r h h1 h2 h3 h4 hq => subst hq; unfold countR; rw [h]; simp only; rw [if_pos h1, if_neg h2, h3]; simp only; rw [if_pos h4]
  | one p h h1 h2 hm hq => subst hm; subst hq; unfold countR; rw [h]; simp only; rw [if_neg (by omega), if_pos h1, if_neg h2]
theorem countIs_of {s : List UInt8} {i q : Nat} {x : Sg} (h : countR s i = .ok (x, q)) : x = ⟨5, i, x.low, x.high, []⟩ ∧ CountIs s i x.low x.high q := by
  unfold countR at h
  split at h
  · cases h
  · rename_i n p hn
    split at h
    · rename_i h44
      split at h
      · rename_i h125
        injection h with h; injection h with h1 h2; subst h1; subst h2
        exact ⟨rfl, .from_ p hn h44 h125 rfl rfl⟩
      · rename_i h125
        split at h
        · cases h
        · rename_i m q' hm
          split at h
          · rename_i h6
            injection h with h; injection h with h1 h2; subst h1; subst h2
            exact ⟨rfl, .both p q' hn h44 h125 hm h6 rfl⟩
          · cases h
    · split at h
      · rename_i h125
        split at h
        · cases h
        · rename_i h0
          injection h with h; injection h with h1 h2; subst h1; subst h2
          exact ⟨rfl, .one p hn h125 h0 rfl rfl⟩
      · cases h
theorem numR_lt {s : List UInt8} {i q : Nat} {low n : Int} (h : numR s i low = .ok (n, q)) : i < q ∧ q ≤ s.length ∧ 0 ≤ n := by
  have a := numR_okD h
  by_cases hi : i ≤ s.length
  · have b := numL_le hi a.1
    have c := b.2.2 _ rfl
    omega
  · have : numL s i = (none, i) := num_zero (by rw [bz_out (by omega)]; decide)
    rw [this] at a; cases a.1
theorem countIs_pre {v : List UInt8} (w : List UInt8) {i q : Nat} {n m : Int} (h : CountIs v i n m q) : CountIs (v ++ w) i n m q := by
  cases h with
  | from_ p h h1 h2 hm hq =>
    have l2 := bz_lt (s := v) (i := p + 1) (by omega)
    exact .from_ p (numR_pre w h (by omega)) (by rw [bz_pre w (by omega)]; exact h1) (by rw [bz_pre w l2]; exact h2) hm hq
  | both p r h h1 h2 h3 h4 hq =>
    have l4 := bz_lt (s := v) (i := r) (by omega)
    have l1 := bz_lt (s := v) (i := p) (by omega)
    have l2 := numR_lt h3
    exact .both p r (numR_pre w h l1) (by rw [bz_pre w l1]; exact h1) (by rw [bz_pre w (by omega)]; exact h2) (numR_pre w h3 l4) (by rw [bz_pre w l4]; exact h4) hq
  | one p h h1 h2 hm hq =>
    have l1 := bz_lt (s := v) (i := p) (by omega)
    exact .one p (numR_pre w h l1) (by rw [bz_pre w l1]; exact h1) h2 hm hq
theorem countIs_shift {p u : List UInt8} {k q : Nat} {n m : Int} (h : CountIs u k n m q) : CountIs (p ++ u) (p.length + k) n m (p.length + q) := by
  cases h with
  | from_ a h h1 h2 hm hq =>
    refine .from_ (p.length + a) ?_ (by rw [bz_app]; exact h1) (by rw [Nat.add_assoc, bz_app]; exact h2) hm (by omega)
    rw [Nat.add_assoc]; exact numR_shift h
  | both a r h h1 h2 h3 h4 hq =>
    refine .both (p.length + a) (p.length + r) ?_ (by rw [bz_app]; exact h1) (by rw [Nat.add_assoc, bz_app]; exact h2) ?_ (by rw [bz_app]; exact h4) (by omega)
    · rw [Nat.add_assoc]; exact numR_shift h
    · rw [Nat.add_assoc]; exact numR_shift h3
  | one a h h1 h2 hm hq =>
    refine .one (p.length + a) ?_ (by rw [bz_app]; exact h1) h2 hm (by omega)
    rw [Nat.add_assoc]; exact numR_shift h

/-- A count that may be. -/
@[reducible] def TimesOk (a b : Int) : Prop := (0 ≤ a ∧ a ≤ 20) ∧ (b = -1 ∨ (1 ≤ b ∧ a ≤ b ∧ b ≤ 20))
/-- A sign that has been read. -/
inductive SgW : Sg → Prop
  | name {p : Int} {n : List UInt8} : n.length ≤ 12 → smallZ (bz n 0) = true → (∀ j, j < n.length → alnumZ (bz n j) = true) → SgW ⟨1, p, 0, 0, n⟩
  | open_ {p : Int} : SgW ⟨2, p, 0, 0, []⟩
  | shut {p : Int} : SgW ⟨3, p, 0, 0, []⟩
  | or_ {p : Int} : SgW ⟨4, p, 0, 0, []⟩
  | times {p a b : Int} : TimesOk a b → SgW ⟨5, p, a, b, []⟩
theorem run_all {s : List UInt8} : ∀ {f i j : Nat}, j < runL s i f → alnumZ (bz s (i + j)) = true
  | 0, i, j, h => by simp [runL] at h
  | f + 1, i, j, h => by
    unfold runL at h
    split at h
    · rename_i ha
      cases j with
      | zero => exact ha
      | succ j => rw [show i + (j + 1) = i + 1 + j by omega]; exact run_all (f := f) (by omega)
    · omega
theorem run_le {s : List UInt8} : ∀ {f i : Nat}, runL s i f ≤ f
  | 0, i => by simp [runL]
  | f + 1, i => by
    unfold runL
    split
    · have := run_le (s := s) (f := f) (i := i + 1); omega
    · omega
theorem bz_cut {s : List UInt8} {i k j : Nat} (h : j < k) (hk : i + k ≤ s.length) : bz ((s.drop i).take k) j = bz s (i + j) := by
  unfold bz
  rw [if_pos (by rw [List.length_take, List.length_drop]; omega), if_pos (by omega)]
  congr 2
  rw [List.getD_eq_getElem?_getD, List.getD_eq_getElem?_getD, List.getElem?_take, if_pos h, List.getElem?_drop]
theorem sgW_of {s : List UInt8} {i q : Nat} {x : Sg} (h : oneR s i = .ok (x, q)) : SgW x := by
  unfold oneR at h
  split at h
  · rename_i hs
    have hlt := small_lt hs
    unfold nameR at h
    split at h
    · cases h
    · rename_i h13
      injection h with h; injection h with h _; subst h
      have h1 := run_le (s := s) (f := 13) (i := i)
      have h2 := name_le (s := s) (f := 13) (i := i) (by omega)
      have h0 : 0 < runL s i 13 := by
        have : alnumZ (bz s i) = true := by unfold alnumZ; rw [hs]; rfl
        unfold runL; rw [if_pos this]; omega
      refine .name (by rw [List.length_take]; omega) ?_ (fun j hj => ?_)
      · rw [bz_cut h0 h2]; exact hs
      · have : j < runL s i 13 := by rw [List.length_take] at hj; omega
        rw [bz_cut this h2]; exact run_all this
  split at h
  · have hc := countIs_of h
    rw [hc.1]
    refine .times ?_
    cases hc.2 with
    | from_ p h1 _ _ hm _ =>
      have a := numR_okD h1
      have b := numR_lt h1
      exact ⟨⟨b.2.2, by omega⟩, .inl hm⟩
    | both p r h1 _ _ h2 _ _ =>
      have a := numR_okD h1
      have b := numR_lt h1
      have c := (numR_okD h2).2
      refine ⟨⟨b.2.2, by omega⟩, .inr ?_⟩
      split at c <;> omega
    | one p h1 _ h3 hm _ =>
      have a := numR_okD h1
      have b := numR_lt h1
      exact ⟨⟨b.2.2, by omega⟩, .inr ⟨by omega, by omega, by omega⟩⟩
  split at h
  · injection h with h; injection h with h _; subst h; exact .open_
  split at h
  · injection h with h; injection h with h _; subst h; exact .shut
  split at h
  · injection h with h; injection h with h _; subst h; exact .or_
  split at h
  · injection h with h; injection h with h _; subst h; exact .times (by decide)
  split at h
  · injection h with h; injection h with h _; subst h; exact .times (by decide)
  split at h
  · injection h with h; injection h with h _; subst h; exact .times (by decide)
  cases h
theorem lexR_W {s : List UInt8} : ∀ {f i : Nat} {out l : List Sg}, (∀ x ∈ out, SgW x) → lexR s f i out = .ok l → ∀ x ∈ l, SgW x
  | 0, i, out, l, h, e => by injection e with e; subst e; exact h
  | f + 1, i, out, l, h, e => by
    simp only [lexR] at e
    split at e
    · injection e with e; subst e; exact h
    split at e
    · exact lexR_W h e
    split at e
    · split at e <;> cases e
    · split at e
      · cases e
      · rename_i x q hx
        refine lexR_W ?_ e
        intro y hy
        rcases List.mem_append.1 hy with hy | hy
        · exact h y hy
        · rw [List.mem_singleton] at hy; subst hy; exact sgW_of hx
theorem lexV_W {s : List UInt8} {l : List Sg} (h : lexV s = .ok l) : ∀ x ∈ l, SgW x := lexR_W (fun x h => by cases h) h
theorem i64_0 : I64 0 := by constructor <;> decide
theorem i64_of {n : Int} (h : -1 ≤ n) (h2 : n ≤ 20) : I64 n := by constructor <;> omega
theorem SgW.ok {x : Sg} (h : SgW x) : SgOk x := by
  cases h with
  | name h1 _ _ => exact ⟨Nat.le_trans h1 (by decide), i64_0, i64_0⟩
  | open_ => exact ⟨Nat.zero_le _, i64_0, i64_0⟩
  | shut => exact ⟨Nat.zero_le _, i64_0, i64_0⟩
  | or_ => exact ⟨Nat.zero_le _, i64_0, i64_0⟩
  | @times p a b h => exact ⟨Nat.zero_le _, i64_of (n := a) (by omega) (by omega), i64_of (n := b) (by omega) (by omega)⟩
/-- A count's text begins so, and is read so. -/
def okTimes (a b : Int) : Bool := match oneR (timesL a b) 0 with
  | .ok (x, q) => decide (x = ⟨5, 0, a, b, []⟩) && decide (q = (timesL a b).length)
  | _ => false
theorem ok_from : ∀ a : Fin 21, okTimes a.val (-1) = true := by decide +kernel
theorem ok_both : ∀ a b : Fin 21, (decide (1 ≤ b.val) && decide (a.val ≤ b.val)) = true → okTimes a.val b.val = true := by decide +kernel
theorem times_ok {a b : Int} (h : TimesOk a b) : oneR (timesL a b) 0 = .ok (⟨5, 0, a, b, []⟩, (timesL a b).length) := by
  have : okTimes a b = true := by
    obtain ⟨⟨h0, h1⟩, h2⟩ := h
    rcases h2 with h2 | ⟨h2, h3, h4⟩
    · subst h2
      have := ok_from ⟨a.toNat, by omega⟩
      simpa [Int.toNat_of_nonneg h0] using this
    · have := ok_both ⟨a.toNat, by omega⟩ ⟨b.toNat, by omega⟩ (by simp; omega)
      simpa [Int.toNat_of_nonneg h0, Int.toNat_of_nonneg (show 0 ≤ b by omega)] using this
  unfold okTimes at this
  split at this
  · rename_i x q hx
    rw [hx]
    simp only [Bool.and_eq_true, decide_eq_true_eq] at this
    rw [this.1, this.2]
  · cases this
/-- Signs of one byte. -/
theorem one_shift {p u : List UInt8} {x : Sg} {q : Nat} (h : oneR u 0 = .ok (x, q)) (hs : smallZ (bz u 0) = false) : oneR (p ++ u) p.length = .ok ({ x with at_ := (p.length : Int) }, p.length + q) := by
  unfold oneR at h ⊢
  rw [bz_app0]
  rw [hs] at h ⊢
  rw [if_neg (by decide)] at h ⊢
  split at h
  · rename_i h1
    rw [if_pos h1]
    have hc := countIs_of h
    have := countIs_ok (countIs_shift (p := p) hc.2)
    rw [Nat.add_zero] at this
    rw [this, hc.1]
  · rename_i h1
    rw [if_neg h1]
    repeat' split at h
    all_goals first
      | (cases h; done)
      | (injection h with h; injection h with h2 h3; subst h2; subst h3; rename_i h4; simp only [h4]; rfl)
theorem one_pre {v : List UInt8} (w : List UInt8) {x : Sg} {q : Nat} (h : oneR v 0 = .ok (x, q)) (hs : smallZ (bz v 0) = false) : oneR (v ++ w) 0 = .ok (x, q) := by
  have hl := oneR_le h
  unfold oneR at h ⊢
  rw [bz_pre w (by omega)]
  rw [hs] at h ⊢
  rw [if_neg (by decide)] at h ⊢
  split at h
  · rename_i h1
    rw [if_pos h1]
    have hc := countIs_of h
    rw [countIs_ok (countIs_pre w hc.2), hc.1]
  · rename_i h1
    rw [if_neg h1]
    repeat' split at h
    all_goals first
      | (cases h; done)
      | (rename_i h4; simp only [h4]; exact h)
/-- What stands behind a name that is shown. -/
def Sep (w : List UInt8) : Prop := alnumZ (bz w 0) = false
theorem piece_read {x : Sg} (h : SgW x) (p w : List UInt8) (hw : x.kind = 1 → Sep w) : oneR (p ++ (pieceL x ++ w)) p.length = .ok ({ x with at_ := (p.length : Int) }, p.length + (pieceL x).length) := by
  cases h with
  | @name a n h1 h2 h3 =>
    have hn : pieceL ⟨1, a, 0, 0, n⟩ = n := rfl
    rw [hn]
    have h0 : 0 < n.length := by
      rcases Nat.eq_zero_or_pos n.length with h | h
      · rw [bz_out (by omega)] at h2; exact absurd h2 (by decide)
      · exact h
    have hs : smallZ (bz (p ++ (n ++ w)) p.length) = true := by rw [bz_app0, bz_pre w h0]; exact h2
    unfold oneR
    rw [if_pos hs]
    rw [name_ok (k := n.length) (by omega) (fun j hj => by rw [bz_app, bz_pre w hj]; exact h3 j hj) (by rw [bz_app]; have := bz_app n w 0; rw [Nat.add_zero] at this; rw [this]; exact hw rfl)]
    rw [show p.length + n.length - p.length = n.length by omega, List.drop_left, List.take_left]
  | @open_ a => exact one_shift (p := p) (u := [40] ++ w) (x := ⟨2, 0, 0, 0, []⟩) (q := 1) (one_pre w rfl (by decide)) (by rw [bz_pre w (by decide)]; decide)
  | @shut a => exact one_shift (p := p) (u := [41] ++ w) (x := ⟨3, 0, 0, 0, []⟩) (q := 1) (one_pre w rfl (by decide)) (by rw [bz_pre w (by decide)]; decide)
  | @or_ a => exact one_shift (p := p) (u := [124] ++ w) (x := ⟨4, 0, 0, 0, []⟩) (q := 1) (one_pre w rfl (by decide)) (by rw [bz_pre w (by decide)]; decide)
  | @times c a b h =>
    have hn : pieceL ⟨5, c, a, b, []⟩ = timesL a b := rfl
    rw [hn]
    have ht := times_ok h
    have h0 : smallZ (bz (timesL a b) 0) = false := by
      unfold timesL
      repeat' split
      all_goals rfl
    have hl := oneR_le ht
    exact one_shift (p := p) (x := ⟨5, 0, a, b, []⟩) (one_pre w ht h0) (by rw [bz_pre w (by omega)]; exact h0)
theorem times_head (a b : Int) : alnumZ (bz (timesL a b) 0) = false ∧ bz (timesL a b) 0 ≠ 32 ∧ 0 < (timesL a b).length := by
  unfold timesL
  repeat' split
  all_goals first
    | exact ⟨by decide, by decide, by decide⟩
    | (simp only [List.cons_append, List.nil_append, List.append_assoc]; exact ⟨rfl, by show (123 : Int) ≠ 32; decide, Nat.succ_pos _⟩)
theorem piece_head {x : Sg} (h : SgW x) : bz (pieceL x) 0 ≠ 32 ∧ 0 < (pieceL x).length := by
  cases h with
  | @name a n h1 h2 h3 =>
    have hn : pieceL ⟨1, a, 0, 0, n⟩ = n := rfl
    rw [hn]
    exact ⟨fun h => by rw [h] at h2; exact absurd h2 (by decide), by have := small_lt h2; omega⟩
  | open_ => exact ⟨show bz [40] 0 ≠ 32 by decide, show 0 < [40].length by decide⟩
  | shut => exact ⟨show bz [41] 0 ≠ 32 by decide, show 0 < [41].length by decide⟩
  | or_ => exact ⟨show bz [124] 0 ≠ 32 by decide, show 0 < [124].length by decide⟩
  | @times c a b h => exact (times_head a b).2
theorem sep_show : ∀ {l : List Sg}, (∀ x ∈ l, SgW x) → Sep (showG false l)
  | [], _ => by show alnumZ (bz [] 0) = false; decide
  | x :: r, h => by
    have hx := h x (List.mem_cons_self ..)
    unfold Sep showG sepL
    by_cases h5 : x.kind = 5
    · rw [if_neg (by simp [h5]), List.nil_append]
      cases hx with
      | @times c a b h =>
        have hn : pieceL ⟨5, c, a, b, []⟩ = timesL a b := rfl
        rw [hn, bz_pre _ (times_head a b).2.2]
        exact (times_head a b).1
      | name _ _ _ => exact absurd h5 (by show ¬ (1 : Int) = 5; decide)
      | open_ => exact absurd h5 (by show ¬ (2 : Int) = 5; decide)
      | shut => exact absurd h5 (by show ¬ (3 : Int) = 5; decide)
      | or_ => exact absurd h5 (by show ¬ (4 : Int) = 5; decide)
    · rw [if_pos ⟨rfl, h5⟩]
      rfl
/-- The same signs, but for the places. -/
def SameBut : List Sg → List Sg → Prop
  | [], [] => True
  | x :: a, y :: b => y = { x with at_ := y.at_ } ∧ SameBut a b
  | _, _ => False
theorem lex_show : ∀ {l : List Sg} {f : Bool} {p : List UInt8} {out : List Sg}, (∀ x ∈ l, SgW x) → out.length + l.length ≤ 200 →
    ∃ l', lexAt (p ++ showG f l) p.length out = .ok (out ++ l') ∧ SameBut l l'
  | [], f, p, out, _, _ => ⟨[], by rw [lexAt_end (by simp [showG]), List.append_nil], trivial⟩
  | x :: r, f, p, out, h, hl => by
    have hx := h x (List.mem_cons_self ..)
    have hr : ∀ y ∈ r, SgW y := fun y hy => h y (List.mem_cons_of_mem _ hy)
    have hp := piece_head hx
    rw [List.length_cons] at hl
    have key : ∀ q : List UInt8, ∃ l', lexAt (q ++ (pieceL x ++ showG false r)) q.length out = .ok (out ++ l') ∧ SameBut (x :: r) l' := by
      intro q
      have h0 : bz (q ++ (pieceL x ++ showG false r)) q.length = bz (pieceL x) 0 := by rw [bz_app0, bz_pre _ hp.2]
      rw [lexAt_go (by simp only [List.length_append]; omega) (by rw [h0]; exact hp.1) (by omega) (piece_read hx q (showG false r) (fun _ => sep_show hr))]
      obtain ⟨l', e, hs⟩ := lex_show (l := r) (f := false) (p := q ++ pieceL x) (out := out ++ [{ x with at_ := (q.length : Int) }]) hr (by rw [List.length_append]; show out.length + 1 + _ ≤ _; omega)
      rw [List.length_append, List.append_assoc] at e
      exact ⟨{ x with at_ := (q.length : Int) } :: l', by rw [e, List.append_assoc]; rfl, rfl, hs⟩
    unfold showG sepL
    by_cases h5 : f = false ∧ x.kind ≠ 5
    · rw [if_pos h5]
      obtain ⟨l', e, hs⟩ := key (p ++ [32])
      refine ⟨l', ?_, hs⟩
      rw [lexAt_sp (by simp) (by rw [bz_app0]; rfl), ← e]
      simp [List.append_assoc]
    · rw [if_neg h5]
      exact key p
theorem lex_back {s : List UInt8} {l : List Sg} (h : lexV s = .ok l) (hl : l.length ≤ 200) : ∃ l', lexV (showL l) = .ok l' ∧ SameBut l l' := by
  obtain ⟨l', e, hs⟩ := lex_show (l := l) (f := true) (p := []) (out := []) (lexV_W h) (by simpa using hl)
  exact ⟨l', e, hs⟩
theorem sameBut_len : ∀ {a b : List Sg}, SameBut a b → a.length = b.length
  | [], [], _ => rfl
  | _ :: _, _ :: _, h => by rw [List.length_cons, List.length_cons, sameBut_len h.2]
  | [], _ :: _, h => h.elim
  | _ :: _, [], h => h.elim
theorem sameBut_at : ∀ {a b : List Sg}, SameBut a b → ∀ k, k < a.length → b.getD k default = { a.getD k default with at_ := (b.getD k default).at_ }
  | _ :: _, _ :: _, h, 0, _ => h.1
  | _ :: _, _ :: _, h, k + 1, hk => sameBut_at h.2 k (by rw [List.length_cons] at hk; omega)
  | [], [], h, k, hk => by cases hk
  | [], _ :: _, h, _, _ => h.elim
  | _ :: _, [], h, _, _ => h.elim
theorem showG_len : ∀ {l : List Sg} {f : Bool}, (∀ x ∈ l, SgW x) → (showG f l).length ≤ 60 * l.length
  | [], f, _ => by simp [showG]
  | x :: r, f, h => by
    have hx := h x (List.mem_cons_self ..)
    have := showG_len (l := r) (f := false) (fun y hy => h y (List.mem_cons_of_mem _ hy))
    have h1 : (sepL f x).length ≤ 1 := by unfold sepL; split <;> simp
    have h2 : (pieceL x).length ≤ 50 := by
      cases hx with
      | @name a n h1 h2 h3 => show n.length ≤ 50; omega
      | open_ => exact (by decide : 1 ≤ 50)
      | shut => exact (by decide : 1 ≤ 50)
      | or_ => exact (by decide : 1 ≤ 50)
      | @times c a b ht => exact times_len a b (i64_of (by omega) (by omega)) (i64_of (by omega) (by omega))
    unfold showG
    simp only [List.length_append, List.length_cons]
    omega
end Go.Proofs.YtijpdbjcmnpobaaDoor
