/-
  Freezing; a call of a function that only makes; what a function's end asks. Plain lemmas, no program in sight.
-/
import Derived.Test.YtijpdbjcmnpobaaDoorHe
namespace Go.Proofs.YtijpdbjcmnpobaaDoor
set_option linter.unusedSimpArgs false
set_option linter.unusedVariables false
open Go.RowKit

section
variable {K : Nat → Prop} {w0 w w' : World} {F0 : Addr → Prop} {E E' : Env} {h h' : Nat → Option HObj}
def HObj.full (o : HObj) : HObj := { o with fl := max o.fl o.n }
/-- What an object holds is frozen. -/
theorem R.share (r : R K w0 F0 E h w) (id : Nat) (o : HObj) (ho : h id = some o) :
    ∃ E', Ext w E w E' ∧ E'.L = E.L ∧ E'.G = E.G ∧ (∀ l b, E.L id = some l → l.A = some b → ∀ k, k < o.n * o.sz → E'.F ⟨b, k, none⟩) ∧ R K w0 F0 E' (hset h id o.full) w := by
  obtain ⟨l, hl, a⟩ := r.obj id o ho
  let E' : Env := ⟨fun p => E.F p ∨ ∃ b k, l.A = some b ∧ k < o.n * o.sz ∧ p = ⟨b, k, none⟩, E.L, E.G⟩
  have e : Ext w E w E' := ⟨Nat.le_refl _, fun p hp => ⟨.inl hp, rfl⟩, fun _ hg => hg, fun _ _ hl _ => hl⟩
  refine ⟨E', e, rfl, rfl, fun l' b hl' hb k hk => ?_, r.os, r.tape, r.output, r.size, r.keep, fun p hp => ?_, fun p hp => ?_, r.klib, r.lib, fun k o1 ho1 => ?_, fun k k' o1 o2 l1 l2 b' ho1 ho2 hl1 hl2 hb1 hb2 => ?_⟩
  · rw [hl] at hl'; injection hl' with hl'; subst hl'
    exact .inr ⟨b, k, hb, hk, rfl⟩
  · rcases hp with hp | ⟨b, k, hb, hk, rfl⟩
    · exact r.frz p hp
    · rcases a.at_ with ⟨h0, _⟩ | ⟨b', cs, h1, h2, h3, h4, h5, h6, h8, h9⟩ | ⟨_, _, _, _, h3, _⟩
      rotate_right
      · rw [h3.n, Nat.zero_mul] at hk; omega
      · rw [h0] at hb; cases hb
      · rw [h1] at hb; injection hb with hb; subst hb
        refine ⟨rfl, ?_⟩
        have hlt : k < cs.size := by rw [h3]; exact Nat.lt_of_lt_of_le hk (Nat.mul_le_mul_right _ h4)
        rw [h2.cell, Array.getElem?_eq_getElem hlt]; rfl
  · rcases hp with hp | ⟨b, k, hb, hk, rfl⟩
    · exact r.fnew p hp
    · have h6 := a.notK hb
      · by_cases hlt : b < w0.heap.size
        · exact .inr (.inr (h6 hlt))
        · exact .inr (.inl (by simpa using hlt))
  · by_cases hk : k = id
    · subst hk
      rw [hset_same] at ho1; injection ho1 with ho1; subst ho1
      refine ⟨l, hl, a.g, a.G, a.sz, a.pos, ?_⟩
      rcases a.at_ with h0 | ⟨b', cs, h1, h2, h3, h4, h5, h6, ⟨vs, h8⟩, h9⟩ | ⟨b', ob, h1, h2, h3, h4⟩
      rotate_right
      · refine .inr (.inr ⟨b', ob, h1, h2, ?_, h4⟩)
        have e1 : o.full = o := by
          cases h3
          rfl
        rw [e1]; exact h3
      · exact .inl ⟨h0.1, h0.2.1, h0.2.2.1, Nat.max_le.2 ⟨h0.2.2.2, Nat.le_refl _⟩⟩
      · refine .inr (.inl ⟨b', cs, h1, h2, h3, h4, h5, h6, ⟨vs, fun i j hi hj => ⟨(h8 i j hi hj).1, (h8 i j hi hj).2.1, (h8 i j hi hj).2.2.ext e⟩⟩, fun kk hkk => ?_, Nat.max_le.2 ⟨h9.2, Nat.le_refl _⟩⟩)
        have hm1 : o.fl * o.sz ≤ max o.fl o.n * o.sz := Nat.mul_le_mul_right _ (Nat.le_max_left _ _)
        have hm2 : o.n * o.sz ≤ max o.fl o.n * o.sz := Nat.mul_le_mul_right _ (Nat.le_max_right _ _)
        rcases hkk with hkk | ⟨b, k', hb, hk', he⟩
        · exact Nat.lt_of_lt_of_le (h9.1 kk hkk) hm1
        · injection he with _ he; subst he
          exact Nat.lt_of_lt_of_le hk' hm2
    · rw [hset_ne _ _ hk] at ho1
      obtain ⟨l1, hl1, a1⟩ := r.obj k o1 ho1
      refine ⟨l1, hl1, a1.ext e (fun _ _ => rfl) (fun b k' hb hF => ?_)⟩
      rcases hF with hF | ⟨b', k'', hb', _, he⟩
      · exact hF
      · injection he with he; subst he
        exact absurd (r.inj k id o1 o l1 l b ho1 ho hl1 hl hb hb') hk
  · have old : ∀ k o1, hset h id o.full k = some o1 → ∃ o, h k = some o := by
      intro k o1 ho1
      by_cases hk : k = id
      · subst hk; exact ⟨o, ho⟩
      · rw [hset_ne _ _ hk] at ho1; exact ⟨o1, ho1⟩
    obtain ⟨p1, hp1⟩ := old k o1 ho1
    obtain ⟨p2, hp2⟩ := old k' o2 ho2
    exact r.inj k k' p1 p2 l1 l2 b' hp1 hp2 hl1 hl2 hb1 hb2
def dupfree : List Nat → Bool
  | [] => true
  | x :: r => !(r.any (Nat.beq x)) && dupfree r
theorem hupd_ne (h : Nat → Option HObj) : ∀ (p : List (Nat × HObj)) (id : Nat), (p.map (·.1)).any (Nat.beq id) = false → hupd h p id = h id
  | [], _, _ => rfl
  | q :: p, id, hn => by
    simp only [List.map_cons, List.any_cons, Bool.or_eq_false_iff] at hn
    have hne : id ≠ q.1 := by have := hn.1; rw [← Bool.not_eq_true, Nat.beq_eq] at this; exact this
    show hset (hupd h p) q.1 q.2 id = _
    rw [hset_ne _ _ hne, hupd_ne h p id hn.2]
/-- The objects sh are frozen in E. -/
def Shared (w : World) (E : Env) (sh : List (Nat × HObj)) : Prop := ∀ id o, (id, o) ∈ sh → ∃ l, E.L id = some l ∧ l.g = o.g ∧ l.sz = o.sz ∧ 0 < o.sz ∧ (o.n = 0 ∨ ∃ b cs, l.A = some b ∧ Blk w b o.ty cs ∧ o.n * o.sz ≤ cs.size ∧
  (∀ k, k < o.n * o.sz → E.F ⟨b, k, none⟩) ∧ ∃ vs : Nat → Nat → Value, ∀ i j, i < o.n → j < o.sz → cs[i * o.sz + j]? = some (vs i j) ∧ (vs i j).oneCell' = true ∧ Rep w E (vs i j) (o.f i j))
theorem R.shareAll (r : R K w0 F0 E h w) : ∀ (sh : List (Nat × HObj)), dupfree (sh.map (·.1)) = true → (∀ p ∈ sh, h p.1 = some p.2) →
    ∃ E', Ext w E w E' ∧ E'.L = E.L ∧ E'.G = E.G ∧ Shared w E' sh ∧ R K w0 F0 E' (hupd h (sh.map fun p => (p.1, p.2.full))) w
  | [], _, _ => ⟨E, Ext.refl _ _, rfl, rfl, (fun _ _ h => by cases h), r⟩
  | q :: sh, hd, hp => by
    simp only [List.map_cons, dupfree, Bool.and_eq_true, Bool.not_eq_true'] at hd
    obtain ⟨E1, e1, hL1, hG1, hs1, r1⟩ := R.shareAll r sh hd.2 (fun p hpm => hp p (List.mem_cons_of_mem _ hpm))
    have hq : hupd h (sh.map fun p => (p.1, p.2.full)) q.1 = some q.2 := by
      rw [hupd_ne _ _ _ (by simpa [List.map_map, Function.comp_def] using hd.1)]
      exact hp q (List.mem_cons_self ..)
    obtain ⟨E2, e2, hL2, hG2, hF2, r2⟩ := r1.share q.1 q.2 hq
    refine ⟨E2, e1.trans e2, hL2.trans hL1, hG2.trans hG1, fun id o hm => ?_, r2⟩
    rcases List.mem_cons.1 hm with he | hm
    · obtain ⟨l, hl, a⟩ := r1.obj q.1 q.2 hq
      have : q = (id, o) := he.symm
      subst this
      refine ⟨l, by rw [hL2]; exact hl, a.g, a.sz, a.pos, ?_⟩
      rcases a.at_ with ⟨_, _, h0⟩ | ⟨b', cs, h1, h2, h3, h4, h5, h6, ⟨vs, h8⟩, h9⟩ | ⟨_, _, _, _, h3, _⟩
      rotate_right
      · exact .inl h3.n
      · exact .inl h0.1
      · exact .inr ⟨b', cs, h1, h2, by rw [h3]; exact Nat.mul_le_mul_right _ h4, fun k hk => hF2 l b' hl h1 k hk, vs, fun i j hi hj => ⟨(h8 i j hi hj).1, (h8 i j hi hj).2.1, (h8 i j hi hj).2.2.ext e2⟩⟩
    · obtain ⟨l, hl, h1, h2, h3, h4⟩ := hs1 id o hm
      refine ⟨l, by rw [hL2]; exact hl, h1, h2, h3, h4.imp (fun h => h) ?_⟩
      rintro ⟨b, cs, g1, g2, g3, g4, vs, g5⟩
      exact ⟨b, cs, g1, g2, g3, fun k hk => (e2.F _ (g4 k hk)).1, vs, fun i j hi hj => ⟨(g5 i j hi hj).1, (g5 i j hi hj).2.1, (g5 i j hi hj).2.2.ext e2⟩⟩
end

/-- What x is once the objects sh are frozen. -/
inductive Fz (sh : List (Nat × HObj)) : HV → HV → Prop
  | imm (v : Value) : Fz sh (.imm v) (.imm v)
  | nil (c : Nat) (sz : Nat) (f : Nat → Nat → HV) (hc : c ≤ maxLen) (A : Option Addr) : Fz sh (.imm (.slice A 0 c)) (.sl sz 0 f)
  | agg (n : Nat) (f f' : Nat → HV) (h : ∀ i, i < n → Fz sh (f i) (f' i)) : Fz sh (.agg n f) (.agg n f')
  | tup (n : Nat) (f f' : Nat → HV) (h : ∀ i, i < n → Fz sh (f i) (f' i)) : Fz sh (.tup n f) (.tup n f')
  | sl (sz n : Nat) (f f' : Nat → Nat → HV) (h : ∀ i j, i < n → j < sz → Fz sh (f i j) (f' i j)) : Fz sh (.sl sz n f) (.sl sz n f')
  | fp (n m : Nat) (hm : m ≤ n) (f f' : Nat → HV) (h : ∀ i, i < m → Fz sh (f i) (f' i)) : Fz sh (.fp n f) (.fp m f')
  | ifc (t : TypeId) (x y : HV) (h : Fz sh x y) : Fz sh (.ifc t x) (.ifc t y)
  | fn (fn : Fn) (n : Nat) (f f' : Nat → HV) (h : ∀ i, i < n → Fz sh (f i) (f' i)) : Fz sh (.fn fn n f) (.fn fn n f')
  | os (id g lo n : Nat) (o : HObj) (f' : Nat → Nat → HV) (ho : (id, o) ∈ sh) (hg : o.g = g) (hn : lo + n ≤ o.n) (h : ∀ i j, i < n → j < o.sz → Fz sh (o.f (lo + i) j) (f' i j)) : Fz sh (.os id g lo n) (.sl o.sz n f')
  | pt (id g i off m : Nat) (o : HObj) (f' : Nat → HV) (ho : (id, o) ∈ sh) (hg : o.g = g) (hi : i < o.n) (hm : off + m ≤ o.sz) (h : ∀ j, j < m → Fz sh (o.f i (off + j)) (f' j)) : Fz sh (.pt id g i off) (.fp m f')
def Env.just (F : Addr → Prop) : Env := ⟨F, fun _ => none, fun _ => False⟩
theorem Ext.just {w : World} {F : Addr → Prop} {E : Env} (h : ∀ a, F a → E.F a) : Ext w (Env.just F) w E := ⟨Nat.le_refl _, fun a ha => ⟨h a ha, rfl⟩, fun _ h => h.elim, fun _ _ _ h => h.elim⟩
theorem Fz.sound {w : World} {E : Env} {sh : List (Nat × HObj)} (hsh : Shared w E sh) {x y : HV} (hz : Fz sh x y) : ∀ {v : Value}, Rep w E v x → Rep w (Env.just E.F) v y := by
  induction hz with
  | imm v => intro u h; cases h; exact .imm _
  | nil c sz f hc A => intro u h; cases h; exact .sl _ 0 c sz f (fun _ _ => undef) (Nat.zero_le _) hc (fun h => absurd h (Nat.lt_irrefl _)) (fun i j hi => absurd hi (Nat.not_lt_zero _))
  | agg n f f' _ ih => intro u h; cases h with | agg cs _ _ vs hn hv h => exact .agg cs n f' vs hn hv (fun i hi => ih i hi (h i hi))
  | tup n f f' _ ih => intro u h; cases h with | tup cs _ _ vs hn hv h => exact .tup cs n f' vs hn hv (fun i hi => ih i hi (h i hi))
  | sl sz n f f' _ ih => intro u h; cases h with | sl A _ c _ _ vs hc hm hA h => exact .sl A n c sz f' vs hc hm hA (fun i j hi hj => ih i j hi hj (h i j hi hj))
  | fp n m hm f f' _ ih => intro u h; cases h with | fp b o _ _ vs hA h => exact .fp b o m f' vs (fun j hj => hA j (Nat.lt_of_lt_of_le hj hm)) (fun j hj => ih j hj (h j (Nat.lt_of_lt_of_le hj hm)))
  | ifc t x y _ ih => intro u h; cases h with | ifc _ v _ h => exact .ifc t v y (ih h)
  | fn fn n f f' _ ih => intro u h; cases h with | fn _ cs _ _ vs hn hv h => exact .fn fn cs n f' vs hn hv (fun i hi => ih i hi (h i hi))
  | os id g lo n o f' ho hg hn _ ih =>
    intro u h
    obtain ⟨l, hl, h1, h2, hpos, h3⟩ := hsh id o ho
    cases h with
    | os A _ c _ _ _ hgG hc hm hA _ =>
      rcases h3 with h0 | ⟨b, cs, g1, g2, g3, g4, vs, g5⟩
      · obtain rfl : n = 0 := by omega
        exact .sl A 0 c o.sz f' (fun _ _ => undef) hc hm (fun h => absurd h (Nat.lt_irrefl _)) (fun i j hi => absurd hi (Nat.not_lt_zero _))
      · refine .sl A n c o.sz f' (fun i j => vs (lo + i) j) hc hm (fun hp => ?_) (fun i j hi hj => ih i j hi hj (g5 _ j (by omega) hj).2.2)
        obtain ⟨b', k', rfl, hl2⟩ := hA hp
        obtain ⟨hb', rfl⟩ := hl2 l hl (h1.trans hg)
        rw [g1] at hb'; injection hb' with hb'; subst hb'
        refine ⟨b, lo * l.sz, rfl, g2.lt, fun i j hi hj => ?_⟩
        have e1 : lo * l.sz + (i * o.sz + j) = (lo + i) * o.sz + j := by rw [h2, Nat.add_mul]; omega
        have hlt := pos_in (sz := o.sz) (show lo + i < o.n by omega) hj
        rw [e1]
        exact ⟨g4 _ hlt, by rw [g2.cell]; exact (g5 _ j (by omega) hj).1, (g5 _ j (by omega) hj).2.1⟩
  | pt id g i off m o f' ho hg hi hm _ ih =>
    intro u h
    obtain ⟨l, hl, h1, h2, hpos, h3⟩ := hsh id o ho
    cases h with
    | pt b' k' _ _ _ _ hgG hh =>
      obtain ⟨hb', rfl⟩ := hh l hl (h1.trans hg)
      rcases h3 with h0 | ⟨b, cs, g1, g2, g3, g4, vs, g5⟩
      · omega
      · rw [g1] at hb'; injection hb' with hb'; subst hb'
        refine .fp b _ m f' (fun j => vs i (off + j)) (fun j hj => ?_) (fun j hj => ih j hj (g5 i _ hi (by omega)).2.2)
        have e1 : i * l.sz + off + j = i * o.sz + (off + j) := by rw [h2]; omega
        have hlt := pos_in (sz := o.sz) hi (show off + j < o.sz by omega)
        rw [e1]
        exact ⟨g4 _ hlt, by rw [g2.cell]; exact (g5 i _ hi (by omega)).1, (g5 i _ hi (by omega)).2.1⟩

/-- Weaker words for the same value. -/
inductive Sb : HV → HV → Prop
  | refl (x : HV) : Sb x x
  | nil (c sz : Nat) (f : Nat → Nat → HV) (hc : c ≤ maxLen) (A : Option Addr) : Sb (.imm (.slice A 0 c)) (.sl sz 0 f)
  | agg (n : Nat) (f f' : Nat → HV) (h : ∀ i, i < n → Sb (f i) (f' i)) : Sb (.agg n f) (.agg n f')
  | tup (n : Nat) (f f' : Nat → HV) (h : ∀ i, i < n → Sb (f i) (f' i)) : Sb (.tup n f) (.tup n f')
  | sl (sz n : Nat) (f f' : Nat → Nat → HV) (h : ∀ i j, i < n → j < sz → Sb (f i j) (f' i j)) : Sb (.sl sz n f) (.sl sz n f')
  | fp (n m : Nat) (hm : m ≤ n) (f f' : Nat → HV) (h : ∀ i, i < m → Sb (f i) (f' i)) : Sb (.fp n f) (.fp m f')
theorem Sb.sound {w : World} {E : Env} {x y : HV} (hz : Sb x y) : ∀ {v : Value}, Rep w E v x → Rep w E v y := by
  induction hz with
  | refl x => exact fun h => h
  | nil c sz f hc A => intro u h; cases h; exact .sl _ 0 c sz f (fun _ _ => undef) (Nat.zero_le _) hc (fun h => absurd h (Nat.lt_irrefl _)) (fun i j hi => absurd hi (Nat.not_lt_zero _))
  | agg n f f' _ ih => intro u h; cases h with | agg cs _ _ vs hn hv h => exact .agg cs n f' vs hn hv (fun i hi => ih i hi (h i hi))
  | tup n f f' _ ih => intro u h; cases h with | tup cs _ _ vs hn hv h => exact .tup cs n f' vs hn hv (fun i hi => ih i hi (h i hi))
  | sl sz n f f' _ ih => intro u h; cases h with | sl A _ c _ _ vs hc hm hA h => exact .sl A n c sz f' vs hc hm hA (fun i j hi hj => ih i j hi hj (h i j hi hj))
  | fp n m hm f f' _ ih => intro u h; cases h with | fp b o _ _ vs hA h => exact .fp b o m f' vs (fun j hj => hA j (Nat.lt_of_lt_of_le hj hm)) (fun j hj => ih j hj (h j (Nat.lt_of_lt_of_le hj hm)))

def OSub (o o' : HObj) : Prop := o.g = o'.g ∧ o.n = o'.n ∧ o.sz = o'.sz ∧ o.ty = o'.ty ∧ o.fl ≤ o'.fl ∧ (∀ i j, i < o.n → j < o.sz → Sb (o.f i j) (o'.f i j)) ∧ (o'.n < o'.fl → o = o')
theorem OSub.refl (o : HObj) : OSub o o := ⟨rfl, rfl, rfl, rfl, Nat.le_refl _, fun _ _ _ _ => .refl _, fun _ => rfl⟩
theorem OSub.of {g n sz ty fl : Nat} {f f' : Nat → Nat → HV} (h : ∀ i j, i < n → j < sz → Sb (f i j) (f' i j)) (hfn : fl ≤ n := by first | exact Nat.zero_le _ | exact Nat.le_refl _ | omega) : OSub ⟨g, n, sz, ty, fl, f⟩ ⟨g, n, sz, ty, fl, f'⟩ := ⟨rfl, rfl, rfl, rfl, Nat.le_refl _, h, fun h => absurd hfn (Nat.not_le_of_lt h)⟩
theorem OSub.at_ {w : World} {E : Env} {K : Nat → Prop} {B : Nat} {o o' : HObj} {l : Loc} (h : OSub o o') (a : ObjAt w E K B o l) : ObjAt w E K B o' l := by
  obtain ⟨g, n, sz, ty, fl, f⟩ := o
  obtain ⟨g', n', sz', ty', fl', f'⟩ := o'
  obtain ⟨h1, h2, h3, h4, h5, h6, h7⟩ := h
  simp only at h1 h2 h3 h4 h5 h6
  subst h1; subst h2; subst h3; subst h4
  refine ⟨a.g, a.G, a.sz, a.pos, ?_⟩
  rcases a.at_ with h0 | ⟨b, cs, g1, g2, g3, g4, g5, g6, ⟨vs, g8⟩, g9⟩ | ⟨b, ob, g1, g2, g3, g4⟩
  · refine .inl ⟨h0.1, h0.2.1, h0.2.2.1, ?_⟩
    rcases Nat.lt_or_ge n fl' with h | h
    · have e1 := h7 h; injection e1 with _ _ _ _ e1 _; have := h0.2.2.2; simp only at this ⊢; omega
    · exact h
  · refine .inr (.inl ⟨b, cs, g1, g2, g3, g4, g5, g6, ⟨vs, fun i j hi hj => ⟨(g8 i j hi hj).1, (g8 i j hi hj).2.1, (h6 i j hi hj).sound (g8 i j hi hj).2.2⟩⟩, fun k hk => Nat.lt_of_lt_of_le (g9.1 k hk) (Nat.mul_le_mul_right _ h5), ?_⟩)
    rcases Nat.lt_or_ge n fl' with h | h
    · have e1 := h7 h; injection e1 with _ _ _ _ e1 _; have := g9.2; simp only at this ⊢; omega
    · exact h
  · refine .inr (.inr ⟨b, ob, g1, g2, ?_, g4⟩)
    have e1 := h7 (by have := g3.n; have := g3.fl; simp only at *; omega)
    rw [← e1]; exact g3
theorem R.weak {K : Nat → Prop} {w0 w : World} {F0 : Addr → Prop} {E : Env} {h h' : Nat → Option HObj} (r : R K w0 F0 E h w) (hh : ∀ id o', h' id = some o' → ∃ o, h id = some o ∧ OSub o o') : R K w0 F0 E h' w :=
  { r with obj := fun id o ho => by
             obtain ⟨o1, ho1, hs⟩ := hh id o ho
             obtain ⟨l, hl, a1⟩ := r.obj id o1 ho1
             exact ⟨l, hl, hs.at_ a1⟩
           inj := fun id id' o o' l l' b ho ho' hl hl' hb hb' => by
             obtain ⟨o1, ho1, _⟩ := hh id o ho
             obtain ⟨o2, ho2, _⟩ := hh id' o' ho'
             exact r.inj id id' o1 o2 l l' b ho1 ho2 hl hl' hb hb' }
def FnOk (P : Program) (f : FuncId) : Prop := ∃ fn c, P.funcs[f]? = some fn ∧ fn.body = some c ∧ (fn.name == "runtime.NumGoroutine") = false
def FzAll (sh : List (Nat × HObj)) : List HV → List HV → Prop
  | [], [] => True
  | x :: xs, y :: ys => Fz sh x y ∧ FzAll sh xs ys
  | _, _ => False
def RepAll (w : World) (E : Env) : List Value → List HV → Prop
  | [], [] => True
  | v :: vs, x :: xs => Rep w E v x ∧ RepAll w E vs xs
  | _, _ => False
/-- What a call that only makes ends with. -/
def PurePost (w : World) (F : Addr → Prop) (r : HV) (e : Ending) (w' : World) : Prop :=
  Below w.heap.size w w' ∧ ∃ v F', e = .returned v ∧ (∀ a, F a → F' a) ∧ (∀ a, F' a → F a ∨ w.heap.size ≤ a.block) ∧ (∀ a, F' a → a.spot = none ∧ (w'.cell? a).isSome = true) ∧ Rep w' (Env.just F') v r
/-- A function that makes its answer out of what it is given, and changes nothing. -/
def HPure (P : Program) (f : FuncId) (args : List HV) (r : HV) : Prop := FnOk P f ∧
  ∀ w F (vs : List Value), (∀ a, F a → a.spot = none ∧ (w.cell? a).isSome = true) → RepAll w (Env.just F) vs args → LibW w → Calls P f vs.toArray w (PurePost w F r)
theorem FzAll.sound {w : World} {E : Env} {sh : List (Nat × HObj)} (hsh : Shared w E sh) : ∀ {vs : List Value} {xs ys : List HV}, FzAll sh xs ys → RepAll w E vs xs → RepAll w (Env.just E.F) vs ys
  | [], [], [], _, _ => trivial
  | v :: vs, x :: xs, y :: ys, h, hr => ⟨h.1.sound hsh hr.1, FzAll.sound hsh h.2 hr.2⟩
  | [], _ :: _, _, _, hr => hr.elim
  | _ :: _, [], _, _, hr => hr.elim
  | [], [], _ :: _, h, _ => h.elim
  | _ :: _, _ :: _, [], h, _ => h.elim
theorem RepAll.ext {w w' : World} {E E' : Env} (e : Ext w E w' E') : ∀ {vs : List Value} {xs : List HV}, RepAll w E vs xs → RepAll w' E' vs xs
  | [], [], _ => trivial
  | _ :: _, _ :: _, h => ⟨h.1.ext e, RepAll.ext e h.2⟩
  | [], _ :: _, h => h.elim
  | _ :: _, [], h => h.elim
section
variable {K : Nat → Prop} {w0 w w' : World} {F0 : Addr → Prop} {E E' : Env} {h h' : Nat → Option HObj} {P : Program}
/-- The call, seen from where the world is the caller's. -/
theorem HPure.calls {f : FuncId} {ys : List HV} {r : HV} (hp : HPure P f ys r) (rr : R K w0 F0 E h w) (sh : List (Nat × HObj)) (hd : dupfree (sh.map (·.1)) = true) (hsh : ∀ p ∈ sh, h p.1 = some p.2) (xs : List HV) (vs : List Value) (hz : FzAll sh xs ys) (hr : RepAll w E vs xs) :
    Calls P f vs.toArray w fun e w' => ∃ v E', e = .returned v ∧ Ext w E w' E' ∧ R K w0 F0 E' (hupd h (sh.map fun p => (p.1, p.2.full))) w' ∧ (∀ g, E'.G g → E.G g) ∧ Rep w' E' v r := by
  obtain ⟨E1, e1, hL1, hG1, hs1, r1⟩ := rr.shareAll sh hd hsh
  refine (hp.2 w E1.F vs r1.frz (hz.sound hs1 (hr.ext e1)) rr.libw).mono ?_
  rintro e w' ⟨hb, v, F', rfl, hF1, hF2, hF3, hv⟩
  have e2 : Ext w E1 w' ⟨F', E1.L, E1.G⟩ := ⟨hb.size, fun a ha => ⟨hF1 a ha, ((r1.extBelow hb).F a ha).2⟩, fun _ hg => hg, fun _ _ hl _ => hl⟩
  exact ⟨v, ⟨F', E1.L, E1.G⟩, rfl, e1.trans e2, r1.grow hb e2 rfl hF2 hF3, fun g hg => by rw [← hG1]; exact hg, hv.ext (Ext.just (fun _ h => h))⟩
end
end Go.Proofs.YtijpdbjcmnpobaaDoor
