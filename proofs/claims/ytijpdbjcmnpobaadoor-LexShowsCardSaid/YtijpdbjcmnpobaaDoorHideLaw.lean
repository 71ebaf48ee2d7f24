/-
  A word's piece, and the bytes of a piece: plain lemmas.
-/
import Derived.Test.YtijpdbjcmnpobaaDoorHide
import Derived.Lib.Bytealg
namespace Go.Proofs.YtijpdbjcmnpobaaDoor
set_option linter.unusedSimpArgs false
set_option linter.unusedVariables false

def hexV (c : UInt8) : Int := Lib.indexByte [48, 49, 50, 51, 52, 53, 54, 55, 56, 57, 97, 98, 99, 100, 101, 102] c
def hexC (h o : Int) : UInt8 := UInt8.ofNat (16 * h + o).toNat
/-- The byte hidden at the begin, and how many bytes that has. -/
def hidV (l : List UInt8) : UInt8 × Nat :=
  if l.length < 2 then (0, 0)
  else if (l.getD 1 0).toNat = 115 then (32, 2)
  else if (l.getD 1 0).toNat = 110 then (10, 2)
  else if (l.getD 1 0).toNat = 92 then (92, 2)
  else if (l.getD 1 0).toNat ≠ 120 ∨ l.length < 4 then (0, 0)
  else if hexV (l.getD 2 0) < 0 ∨ hexV (l.getD 3 0) < 0 then (0, 0)
  else if plainB (hexC (hexV (l.getD 2 0)) (hexV (l.getD 3 0))) = true ∨ (hexC (hexV (l.getD 2 0)) (hexV (l.getD 3 0))).toNat = 32 ∨ (hexC (hexV (l.getD 2 0)) (hexV (l.getD 3 0))).toNat = 10 then (0, 0)
  else (hexC (hexV (l.getD 2 0)) (hexV (l.getD 3 0)), 4)

theorem hexV_all : ∀ n : Fin 256, (-1 ≤ hexV (UInt8.ofNat n.val) ∧ hexV (UInt8.ofNat n.val) < 16) ∧ (0 ≤ hexV (UInt8.ofNat n.val) → hexD (hexV (UInt8.ofNat n.val)).toNat = UInt8.ofNat n.val) := by decide +kernel
theorem u8_eta (c : UInt8) : UInt8.ofNat c.toNat = c := by simp
theorem hexV_in (c : UInt8) : -1 ≤ hexV c ∧ hexV c < 16 := by
  have := (hexV_all ⟨c.toNat, c.toNat_lt⟩).1
  simpa [u8_eta] using this
theorem hexD_V (c : UInt8) (h : 0 ≤ hexV c) : hexD (hexV c).toNat = c := by
  have := (hexV_all ⟨c.toNat, c.toNat_lt⟩).2
  simp only [u8_eta] at this
  exact this h
theorem hexV_D : ∀ q : Fin 16, hexV (hexD q.val) = (q.val : Int) := by decide +kernel
theorem hexC_nat (a b : Nat) (ha : a < 16) (hb : b < 16) : (hexC a b).toNat = 16 * a + b := by
  unfold hexC
  rw [UInt8.toNat_ofNat']
  omega
theorem u8_ext {a b : UInt8} (h : a.toNat = b.toNat) : a = b := UInt8.toNat_inj.1 h
theorem hideB_eq (c : UInt8) : (c.toNat = 92 ∧ hideB c = [92, 92]) ∨ (c.toNat = 32 ∧ hideB c = [92, 115]) ∨ (c.toNat = 10 ∧ hideB c = [92, 110]) ∨ (¬ c.toNat = 92 ∧ plainB c = true ∧ hideB c = [c]) ∨
    ((plainB c = false ∧ ¬ c.toNat = 92 ∧ ¬ c.toNat = 32 ∧ ¬ c.toNat = 10) ∧ hideB c = [92, 120, hexD (c.toNat / 16), hexD (c.toNat % 16)]) := by
  unfold hideB
  by_cases h1 : c.toNat = 92
  · exact .inl ⟨h1, if_pos h1⟩
  · rw [if_neg h1]
    by_cases h2 : c.toNat = 32
    · exact .inr (.inl ⟨h2, if_pos h2⟩)
    · rw [if_neg h2]
      by_cases h3 : c.toNat = 10
      · exact .inr (.inr (.inl ⟨h3, if_pos h3⟩))
      · rw [if_neg h3]
        cases h4 : plainB c with
        | true => exact .inr (.inr (.inr (.inl ⟨h1, rfl, by simp⟩)))
        | false => exact .inr (.inr (.inr (.inr ⟨⟨rfl, h1, h2, h3⟩, by simp⟩)))
/-- The byte whose piece stands at the begin. -/
def decB (l : List UInt8) : Option (UInt8 × Nat) :=
  match l with
  | [] => none
  | c :: t => if c.toNat = 92 then (if (hidV (c :: t)).2 = 0 then none else some (hidV (c :: t))) else if plainB c = true then some (c, 1) else none
theorem n92 (c : UInt8) (h : c.toNat = 92) : c = 92 := u8_ext h
theorem dec_ok (c : UInt8) (t : List UInt8) : decB (hideB c ++ t) = some (c, (hideB c).length) := by
  have lt := c.toNat_lt
  rcases hideB_eq c with ⟨h, e⟩ | ⟨h, e⟩ | ⟨h, e⟩ | ⟨h, h2, e⟩ | ⟨⟨h1, h2, h3, h4⟩, e⟩
  · rw [e]; have : c = 92 := u8_ext h
    subst this; simp [decB, hidV, show ¬ t.length + 1 + 1 < 2 from by omega]
  · rw [e]; have : c = 32 := u8_ext h
    subst this; simp [decB, hidV, show ¬ t.length + 1 + 1 < 2 from by omega]
  · rw [e]; have : c = 10 := u8_ext h
    subst this; simp [decB, hidV, show ¬ t.length + 1 + 1 < 2 from by omega]
  · rw [e]; simp [decB, h, h2]
  · rw [e]
    have q1 : c.toNat / 16 < 16 := by omega
    have q2 : c.toNat % 16 < 16 := by omega
    have v1 := hexV_D ⟨c.toNat / 16, q1⟩
    have v2 := hexV_D ⟨c.toNat % 16, q2⟩
    simp only at v1 v2
    have hc : hexC (hexV (hexD (c.toNat / 16))) (hexV (hexD (c.toNat % 16))) = c := by
      rw [v1, v2]
      apply u8_ext
      rw [hexC_nat _ _ q1 q2]; omega
    have hv : hidV ([92, 120, hexD (c.toNat / 16), hexD (c.toNat % 16)] ++ t) = (c, 4) := by
      unfold hidV
      simp only [List.cons_append, List.nil_append, List.length_cons, List.getD_cons_succ, List.getD_cons_zero]
      rw [if_neg (by omega), if_neg (by decide), if_neg (by decide), if_neg (by decide), if_neg (by intro h; rcases h with h | h; exact h (by decide); omega), if_neg (by rw [v1, v2]; omega), hc, if_neg (by rw [h1]; simp [h3, h4])]
    simp only [List.cons_append, List.nil_append] at hv ⊢
    unfold decB
    simp only
    rw [hv]
    simp
theorem list2 {l : List UInt8} (h : ¬ l.length < 2) : ∃ a b t, l = a :: b :: t := by
  match l, h with
  | a :: b :: t, _ => exact ⟨a, b, t, rfl⟩
  | [_], h => simp at h
  | [], h => simp at h
theorem hid_conv (t : List UInt8) (h : (hidV (92 :: t)).2 ≠ 0) : ∃ t', 92 :: t = hideB (hidV (92 :: t)).1 ++ t' ∧ (hidV (92 :: t)).2 = (hideB (hidV (92 :: t)).1).length := by
  match t, h with
  | [], h => exact absurd rfl h
  | b :: r, h =>
    by_cases h1 : b.toNat = 115
    · have : b = 115 := u8_ext h1
      subst this; exact ⟨r, rfl, rfl⟩
    · by_cases h2 : b.toNat = 110
      · have : b = 110 := u8_ext h2
        subst this; exact ⟨r, rfl, rfl⟩
      · by_cases h3 : b.toNat = 92
        · have : b = 92 := u8_ext h3
          subst this; exact ⟨r, rfl, rfl⟩
        · by_cases h4 : b.toNat ≠ 120 ∨ (92 :: b :: r).length < 4
          · have e : hidV (92 :: b :: r) = (0, 0) := by
              unfold hidV
              simp only [List.getD_cons_succ, List.getD_cons_zero]
              rw [if_neg (by simp), if_neg h1, if_neg h2, if_neg h3, if_pos h4]
            rw [e] at h; exact absurd rfl h
          · have h5 : b = 120 := u8_ext (by show b.toNat = 120; omega)
            subst h5
            match r, h4 with
            | [], h4 => simp at h4
            | [_], h4 => simp at h4
            | x :: y :: r, h4 =>
              by_cases h6 : hexV x < 0 ∨ hexV y < 0
              · have e : hidV (92 :: 120 :: x :: y :: r) = (0, 0) := by
                  unfold hidV
                  simp only [List.getD_cons_succ, List.getD_cons_zero]
                  rw [if_neg (by simp), if_neg h1, if_neg h2, if_neg h3, if_neg h4, if_pos h6]
                rw [e] at h; exact absurd rfl h
              · have i1 := hexV_in x
                have i2 := hexV_in y
                have d1 := hexD_V x (by omega)
                have d2 := hexD_V y (by omega)
                obtain ⟨a, ha⟩ : ∃ a : Nat, hexV x = a := ⟨(hexV x).toNat, by omega⟩
                obtain ⟨c, hc⟩ : ∃ c : Nat, hexV y = c := ⟨(hexV y).toNat, by omega⟩
                rw [ha] at i1 d1; rw [hc] at i2 d2
                have hn := hexC_nat a c (by omega) (by omega)
                by_cases h7 : plainB (hexC (hexV x) (hexV y)) = true ∨ (hexC (hexV x) (hexV y)).toNat = 32 ∨ (hexC (hexV x) (hexV y)).toNat = 10
                · have e : hidV (92 :: 120 :: x :: y :: r) = (0, 0) := by
                    unfold hidV
                    simp only [List.getD_cons_succ, List.getD_cons_zero]
                    rw [if_neg (by simp), if_neg h1, if_neg h2, if_neg h3, if_neg h4, if_neg h6, if_pos h7]
                  rw [e] at h; exact absurd rfl h
                · have e : hidV (92 :: 120 :: x :: y :: r) = (hexC a c, 4) := by
                    unfold hidV
                    simp only [List.getD_cons_succ, List.getD_cons_zero]
                    rw [if_neg (by simp), if_neg h1, if_neg h2, if_neg h3, if_neg h4, if_neg h6, if_neg h7, ha, hc]
                  rw [ha, hc] at h7
                  have hp : plainB (hexC a c) = false := by
                    cases hq : plainB (hexC a c) with
                    | true => exact absurd (.inl hq) h7
                    | false => rfl
                  have h92 : ¬ (hexC a c).toNat = 92 := by
                    intro h9
                    have : hexC a c = 92 := u8_ext h9
                    rw [this] at hp
                    exact absurd hp (by decide)
                  have hb : hideB (hexC a c) = [92, 120, x, y] := by
                    unfold hideB
                    rw [if_neg h92, if_neg (fun h => h7 (.inr (.inl h))), if_neg (fun h => h7 (.inr (.inr h))), if_neg (by rw [hp]; decide), hn, show (16 * a + c) / 16 = a from by omega, show (16 * a + c) % 16 = c from by omega]
                    simp only [Int.toNat_natCast] at d1 d2
                    rw [d1, d2]
                  rw [e]
                  exact ⟨r, by rw [hb]; rfl, by rw [hb]; rfl⟩
theorem dec_conv {l : List UInt8} {c : UInt8} {n : Nat} (h : decB l = some (c, n)) : ∃ t, l = hideB c ++ t ∧ n = (hideB c).length := by
  match l, h with
  | [], h => cases h
  | a :: t, h =>
    unfold decB at h
    simp only at h
    by_cases h1 : a.toNat = 92
    · have : a = 92 := u8_ext h1
      subst this
      rw [if_pos (by decide)] at h
      by_cases h2 : (hidV (92 :: t)).2 = 0
      · rw [if_pos h2] at h; cases h
      · rw [if_neg h2] at h
        injection h with h
        have := hid_conv t h2
        rw [h] at this
        exact this
    · rw [if_neg h1] at h
      by_cases h2 : plainB a = true
      · rw [if_pos h2] at h
        injection h with h
        injection h with h h'
        subst h; subst h'
        have e : hideB a = [a] := by
          rcases hideB_eq a with ⟨h, e⟩ | ⟨h, e⟩ | ⟨h, e⟩ | ⟨h, h2, e⟩ | ⟨⟨h3, _⟩, e⟩
          · exact absurd h h1
          · have : a = 32 := u8_ext h
            subst this; exact absurd h2 (by decide)
          · have : a = 10 := u8_ext h
            subst this; exact absurd h2 (by decide)
          · exact e
          · rw [h3] at h2; cases h2
        exact ⟨t, by rw [e]; rfl, by rw [e]; rfl⟩
      · rw [if_neg h2] at h; cases h
theorem hideB_ne (c : UInt8) : hideB c ≠ [] := by
  rcases hideB_eq c with ⟨h, e⟩ | ⟨h, e⟩ | ⟨h, e⟩ | ⟨h, h2, e⟩ | ⟨⟨h3, _⟩, e⟩ <;> rw [e] <;> simp
theorem hideB_pos (c : UInt8) : 0 < (hideB c).length := List.length_pos_iff.2 (hideB_ne c)
theorem hideB_inj {c e : UInt8} {s t : List UInt8} (h : hideB c ++ s = hideB e ++ t) : c = e ∧ s = t := by
  have h1 := dec_ok c s
  rw [h, dec_ok e t] at h1
  injection h1 with h1
  injection h1 with h1 _
  subst h1
  exact ⟨rfl, List.append_cancel_left h⟩
theorem hideL_cons (c : UInt8) (b : List UInt8) : hideL (c :: b) = hideB c ++ hideL b := by simp [hideL]
theorem hideL_app (a b : List UInt8) : hideL (a ++ b) = hideL a ++ hideL b := by simp [hideL]
theorem hide_split : ∀ (acc b rest : List UInt8), hideL b = hideL acc ++ rest → ∃ b', b = acc ++ b' ∧ hideL b' = rest
  | [], b, rest, h => ⟨b, rfl, h⟩
  | c :: acc, [], rest, h => by
    rw [hideL_cons, List.append_assoc] at h
    have := congrArg List.length h
    rw [List.length_append] at this
    have := hideB_pos c
    simp [hideL] at *
    omega
  | c :: acc, d :: b, rest, h => by
    rw [hideL_cons, hideL_cons, List.append_assoc] at h
    obtain ⟨h1, h2⟩ := hideB_inj h
    obtain ⟨b', h3, h4⟩ := hide_split acc b rest h2
    subst h1; subst h3
    exact ⟨b', rfl, h4⟩
theorem hideL_nil {b : List UInt8} (h : hideL b = []) : b = [] := by
  cases b with
  | nil => rfl
  | cons c b =>
    rw [hideL_cons] at h
    exact absurd (List.append_eq_nil_iff.1 h).1 (hideB_ne c)
theorem hideL_inj {a b : List UInt8} (h : hideL a = hideL b) : a = b := by
  obtain ⟨b', h1, h2⟩ := hide_split b a [] (by rw [h]; simp)
  have h3 := hideL_nil h2
  subst h3; rw [h1]; simp
open Classical in
noncomputable def bareV (l : List UInt8) : Option (List UInt8) := if h : ∃ b, hideL b = l then some h.choose else none
theorem bareV_some {l b : List UInt8} (h : hideL b = l) : bareV l = some b := by
  unfold bareV
  rw [dif_pos ⟨b, h⟩]
  exact congrArg some (hideL_inj ((Exists.choose_spec (⟨b, h⟩ : ∃ b, hideL b = l)).trans h.symm))
theorem bareV_none {l : List UInt8} (h : ∀ b, hideL b ≠ l) : bareV l = none := by
  unfold bareV
  rw [dif_neg (fun ⟨b, hb⟩ => h b hb)]
/-- Where no piece stands there is none. -/
theorem bare_stop {l acc rest : List UInt8} (h : hideL acc ++ rest = l) (hr : rest ≠ []) (hd : ∀ c, ¬ hideB c <+: rest) : bareV l = none := bareV_none fun b hb => by
  obtain ⟨b', rfl, h2⟩ := hide_split acc b rest (hb.trans h.symm)
  cases b' with
  | nil => exact hr (by rw [← h2]; rfl)
  | cons c b' => exact hd c ⟨hideL b', by rw [← hideL_cons]; exact h2⟩
theorem dec_none {l : List UInt8} (h : decB l = none) : ∀ c, ¬ hideB c <+: l := by
  rintro c ⟨t, rfl⟩
  rw [dec_ok] at h; cases h
theorem bare_step {l acc rest : List UInt8} (h : hideL acc ++ rest = l) {c : UInt8} {n : Nat} (hd : decB rest = some (c, n)) : hideL (acc ++ [c]) ++ rest.drop n = l ∧ 0 < n ∧ n ≤ rest.length := by
  obtain ⟨t, rfl, rfl⟩ := dec_conv hd
  refine ⟨?_, hideB_pos c, by simp⟩
  rw [List.drop_left, hideL_app, ← h]
  simp [hideL]
theorem bareV_hide (b : List UInt8) : bareV (hideL b) = some b := bareV_some rfl
theorem bareV_back {l b : List UInt8} (h : bareV l = some b) : hideL b = l := by
  unfold bareV at h
  by_cases he : ∃ b, hideL b = l
  · rw [dif_pos he] at h
    injection h with h
    rw [← h]; exact he.choose_spec
  · rw [dif_neg he] at h; cases h
theorem bareV_len {l b : List UInt8} (h : bareV l = some b) : b.length ≤ l.length := by
  have e := bareV_back h
  rw [← e]
  clear h e
  induction b with
  | nil => simp
  | cons c b ih =>
    rw [hideL_cons, List.length_append, List.length_cons]
    have := hideB_pos c
    omega
end Go.Proofs.YtijpdbjcmnpobaaDoor
