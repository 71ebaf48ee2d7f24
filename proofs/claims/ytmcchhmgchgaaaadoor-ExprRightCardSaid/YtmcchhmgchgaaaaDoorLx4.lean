/-
  Calls that change what they are given, and that give what the caller may go on with. Plain lemmas, no program in sight.
-/
import Derived.Test.YtmcchhmgchgaaaaDoorHd
import Derived.Laws.IdiomStrings
import Derived.Recover
import Derived.Laws.RangeString
import Derived.Test.YtmcchhmgchgaaaaDoorChecked
import Derived.Shelf.Strings.Builder1
import Derived.Shelf.Strings.BuilderF
import Derived.Shelf.LaysM
import Derived.Shelf.Strconv.Itoa3
import Derived.Shelf.LaysC
import Derived.Shelf.Strconv.AtoiAll
import Derived.Shelf.Strconv.ErrVarAll
import Derived.Test.YtmcchhmgchgaaaaDoorProg
import Derived.Lib.ItoaNum
import Derived.Lib.AtoiAll
import Derived.WalkKit
import Derived.BigCall
import Derived.BigGuard
import Derived.Lib.Strings
import Derived.Lib.AtoiErrMem
import Derived.Lib.SmallJoins
import Derived.Lib.Bytealg
import Derived.Shelf.Lays
import Derived.Shelf.Strings.BuilderK
import Derived.Lib.OthersKept
import Derived.Deep.WholeRow
import Derived.Laws.Tables
import Derived.Lib.ItoaLen
import Derived.Shelf.Small.Strs
namespace Go.Proofs.YtmcchhmgchgaaaaDoor
set_option linter.unusedSimpArgs false
set_option linter.unusedVariables false
open Go.RowKit

/-- y is what x becomes where the objects of kp go on being the call's, and those of sh are frozen. -/
inductive Kz (kp sh : List (Nat × HObj)) : HV → HV → Prop
  | fz (x y : HV) (h : Fz sh x y) : Kz kp sh x y
  | agg (n : Nat) (f f' : Nat → HV) (h : ∀ i, i < n → Kz kp sh (f i) (f' i)) : Kz kp sh (.agg n f) (.agg n f')
  | tup (n : Nat) (f f' : Nat → HV) (h : ∀ i, i < n → Kz kp sh (f i) (f' i)) : Kz kp sh (.tup n f) (.tup n f')
  | sl (sz n : Nat) (f f' : Nat → Nat → HV) (h : ∀ i j, i < n → j < sz → Kz kp sh (f i j) (f' i j)) : Kz kp sh (.sl sz n f) (.sl sz n f')
  | ifc (t : TypeId) (x y : HV) (h : Kz kp sh x y) : Kz kp sh (.ifc t x) (.ifc t y)
  | fn (fn : Fn) (n : Nat) (f f' : Nat → HV) (h : ∀ i, i < n → Kz kp sh (f i) (f' i)) : Kz kp sh (.fn fn n f) (.fn fn n f')
  | pt (id g i off : Nat) (o : HObj) (ho : hget kp id = some o) (hg : o.g = g) : Kz kp sh (.pt id g i off) (.pt id g i off)
  | os (id g lo n : Nat) (o : HObj) (ho : hget kp id = some o) (hg : o.g = g) : Kz kp sh (.os id g lo n) (.os id g lo n)
  | nps (id g : Nat) (o : HObj) (ho : hget kp id = some o) (hg : o.g = g) : Kz kp sh (.nps id g) (.nps id g)
theorem Kz.sound {w : World} {E E' : Env} {kp sh : List (Nat × HObj)} (hF : ∀ a, E.F a → E'.F a) (hL : ∀ id o, hget kp id = some o → E'.L id = E.L id) (hG : ∀ id o, hget kp id = some o → E'.G o.g) (hsh : Shared w E sh) {x y : HV} (hz : Kz kp sh x y) :
    ∀ {v : Value}, Rep w E v x → Rep w E' v y := by
  induction hz with
  | fz x y h => exact fun hr => (h.sound hsh hr).ext (Ext.just hF)
  | agg n f f' _ ih => intro u h; cases h with | agg cs _ _ vs hn hv h => exact .agg cs n f' vs hn hv (fun i hi => ih i hi (h i hi))
  | tup n f f' _ ih => intro u h; cases h with | tup cs _ _ vs hn hv h => exact .tup cs n f' vs hn hv (fun i hi => ih i hi (h i hi))
  | sl sz n f f' _ ih => intro u h; cases h with | sl A _ c _ _ vs hc hm hA h => exact .sl A n c sz f' vs hc hm (fun hn => by
      obtain ⟨b, o, h1, h2, h3⟩ := hA hn
      exact ⟨b, o, h1, h2, fun i j hi hj => ⟨hF _ (h3 i j hi hj).1, (h3 i j hi hj).2⟩⟩) (fun i j hi hj => ih i j hi hj (h i j hi hj))
  | ifc t x y _ ih => intro u h; cases h with | ifc _ v _ h => exact .ifc t v y (ih h)
  | fn fn n f f' _ ih => intro u h; cases h with | fn _ cs _ _ vs hn hv h => exact .fn fn cs n f' vs hn hv (fun i hi => ih i hi (h i hi))
  | pt id g i off o ho hg =>
    intro u h
    cases h with
    | pt b k _ _ _ _ hgG hh => exact .pt b k id g i off (hg ▸ hG id o ho) (fun l hl hlg => hh l (by rw [← hL id o ho]; exact hl) hlg)
  | os id g lo n o ho hg =>
    intro u h
    cases h with
    | os A _ c _ _ _ hgG hc hm hA h0 =>
      refine .os A n c id g lo (hg ▸ hG id o ho) hc hm (fun hp => ?_) (fun l hl hlg => h0 l (by rw [← hL id o ho]; exact hl) hlg)
      obtain ⟨b, k, h1, h2⟩ := hA hp
      exact ⟨b, k, h1, fun l hl hlg => h2 l (by rw [← hL id o ho]; exact hl) hlg⟩
  | nps id g o ho hg =>
    intro u h
    cases h with
    | npn _ _ hgG hh => exact .npn id g (hg ▸ hG id o ho) (fun l hl hlg => hh l (by rw [← hL id o ho]; exact hl) hlg)
    | npp _ _ _ hgG hc h =>
      cases h with
      | pt b k _ _ _ _ _ hh => exact .npp _ _ _ (hg ▸ hG id o ho) (fun l hl hlg => hc l (by rw [← hL id o ho]; exact hl) hlg) (.pt b k id g 0 0 (hg ▸ hG id o ho) (fun l hl hlg => hh l (by rw [← hL id o ho]; exact hl) hlg))

/-- The caller, as the call finds it. -/
structure Clr where
  K : Nat → Prop
  w0 : World
  F0 : Addr → Prop
  E : Env
  h : Nat → Option HObj
  w : World
  pre : List (Nat × HObj)
/-- What the callee must keep: all but the objects that it is given. -/
def Clr.K' (X : Clr) (b : Nat) : Prop := ∀ id o l, hget X.pre id = some o → X.E.L id = some l → l.A ≠ some b
def Clr.ctx (X : Clr) : Ctx := ⟨X.K', X.w, X.E, []⟩
structure Clr.Ok (X : Clr) : Prop where
  r : R X.K X.w0 X.F0 X.E X.h X.w
  pre : ∀ id o, hget X.pre id = some o → X.h id = some o
theorem Clr.Ok.start {X : Clr} (ok : X.Ok) : R X.K' X.w X.E.F X.E (hget X.pre) X.w := by
  have r := ok.r
  refine ⟨rfl, rfl, rfl, Nat.le_refl _, fun _ _ _ => rfl, r.frz, fun a ha => .inl ha, fun b hb id o l ho hl hA => ?_, r.libw, fun id o ho => ?_, fun id id' o o' l l' b ho ho' hl hl' hb hb' => r.inj id id' o o' l l' b (ok.pre _ _ ho) (ok.pre _ _ ho') hl hl' hb hb'⟩
  · obtain ⟨l2, hl2, a⟩ := r.obj id o (ok.pre _ _ ho)
    rw [hl] at hl2; injection hl2 with hl2; subst hl2
    exact a.notK hA (r.lib.ok _ hb) (r.klib _ hb)
  · obtain ⟨l, hl, a⟩ := r.obj id o (ok.pre _ _ ho)
    refine ⟨l, hl, a.g, a.G, a.sz, a.pos, ?_⟩
    rcases a.at_ with h0 | ⟨b, cs, g1, g2, g3, g4, g5, g6, g8, g9⟩ | ⟨b, ob, g1, g2, g3, g4⟩
    · exact .inl h0
    · exact .inr (.inl ⟨b, cs, g1, g2, g3, g4, g5, fun _ hk => hk id o l ho hl g1, g8, g9⟩)
    · exact .inr (.inr ⟨b, ob, g1, g2, g3, fun _ hk => hk id o l ho hl g1⟩)
theorem hupd_hget (h : Nat → Option HObj) : ∀ (p : List (Nat × HObj)) (id : Nat), hupd h p id = match hget p id with | some o => some o | none => h id
  | [], id => rfl
  | (k, o) :: p, id => by
    show hset (hupd h p) k o id = _
    rw [hget_cons]
    by_cases hk : id = k
    · subst hk; rw [hset_same, hset_same]
    · rw [hset_ne _ _ hk, hset_ne _ _ hk, hupd_hget h p id]
/-- The callee's end, in the caller's words. kp: what goes on being the call's. -/
theorem Clr.Ok.back {X : Clr} (ok : X.Ok) {E2 : Env} {h2 : Nat → Option HObj} {w' : World} {c' : Nat} (e2 : Ext X.w X.E w' E2) (r2 : R X.K' X.w X.E.F E2 h2 w') (hG2 : ∀ g, E2.G g → g < c') {kp sh : List (Nat × HObj)} (hsh : Shared w' E2 sh)
    (hpk : ∀ id o, hget X.pre id = some o → ∃ o', hget kp id = some o')
    (hkp : ∀ id o', hget kp id = some o' → ∃ o, h2 id = some o ∧ o.g = o'.g ∧ o.n = o'.n ∧ o.sz = o'.sz ∧ o.ty = o'.ty ∧ o.fl ≤ o'.fl ∧ (∀ i j, i < o.n → j < o.sz → Kz kp sh (o.f i j) (o'.f i j)) ∧ (o'.n < o'.fl → o = o')) :
    ∃ E3, Ext X.w X.E w' E3 ∧ R X.K X.w0 X.F0 E3 (hupd X.h kp) w' ∧ (∀ g, E3.G g → g < c') ∧ (∀ g, E3.G g → X.E.G g ∨ ∃ id o, hget kp id = some o ∧ o.g = g) ∧ ∀ v x y, Kz kp sh x y → Rep w' E2 v x → Rep w' E3 v y := by
  have r := ok.r
  let E3 : Env := ⟨E2.F, fun id => match hget kp id with | some _ => E2.L id | none => X.E.L id, fun g => X.E.G g ∨ ∃ id o, hget kp id = some o ∧ o.g = g⟩
  have hL : ∀ id o, hget kp id = some o → E3.L id = E2.L id := fun id o ho => by show (match hget kp id with | some _ => E2.L id | none => X.E.L id) = _; rw [ho]
  have hLn : ∀ id, hget kp id = none → E3.L id = X.E.L id := fun id ho => by show (match hget kp id with | some _ => E2.L id | none => X.E.L id) = _; rw [ho]
  have kz : ∀ v x y, Kz kp sh x y → Rep w' E2 v x → Rep w' E3 v y := fun v x y hz hr => hz.sound (E := E2) (E' := E3) (fun _ h => h) hL (fun id o ho => .inr ⟨id, o, ho, rfl⟩) hsh hr
  have e3 : Ext X.w X.E w' E3 := ⟨e2.sz, e2.F, fun g hg => .inl hg, fun id l hl hg => by
    cases hk : hget kp id with
    | none => rw [hLn id hk] at hl; exact hl
    | some o => rw [hL id o hk] at hl; exact e2.L id l hl hg⟩
  -- where the caller's objects lie
  have own : ∀ id o l b, X.h id = some o → X.E.L id = some l → l.A = some b → b < X.w.heap.size ∧ (b < X.w0.heap.size → ¬ X.K b) ∧ (hget X.pre id = none → X.K' b) := by
    intro id o l b ho hl hA
    obtain ⟨l2, hl2, a⟩ := r.obj id o ho
    rw [hl] at hl2; injection hl2 with hl2; subst hl2
    refine ⟨a.lt hA, ?_, fun hn id' o' l' ho' hl' hA' => ?_⟩
    · exact a.notK hA
    · have := r.inj id id' o o' l l' b ho (ok.pre _ _ ho') hl hl' hA hA'
      subst this
      rw [hn] at ho'; cases ho'
  have notpre : ∀ b, b < X.w0.heap.size → X.K b → X.K' b := fun b hb hK id o l ho hl hA => (own id o l b (ok.pre _ _ ho) hl hA).2.1 hb hK
  have ispre : ∀ b, ¬ X.K' b → ∃ id o l, hget X.pre id = some o ∧ X.E.L id = some l ∧ l.A = some b := by
    intro b hb
    unfold Clr.K' at hb
    simp only [Classical.not_forall, ne_eq, Classical.not_not] at hb
    obtain ⟨id, o, l, h1, h2, h3⟩ := hb
    exact ⟨id, o, l, h1, h2, h3⟩
  -- the objects of kp
  have kpo : ∀ id o', hget kp id = some o' → ∃ l, E3.L id = some l ∧ ObjAt w' E3 X.K X.w0.heap.size o' l ∧ E2.L id = some l ∧ (∀ b, l.A = some b → X.w.heap.size ≤ b ∨ ¬ X.K' b) := by
    intro id o' hk
    obtain ⟨o, ho, h1, h2', h3, h4, h5, h6, h7⟩ := hkp id o' hk
    obtain ⟨l, hl, a⟩ := r2.obj id o ho
    refine ⟨l, by rw [hL id o' hk]; exact hl, ⟨a.g.trans h1, .inr ⟨id, o', hk, rfl⟩, a.sz.trans h3, by rw [← h3]; exact a.pos, ?_⟩, hl, fun b hb => ?_⟩
    · rcases a.at_ with ⟨g1, g2, g3⟩ | ⟨b, cs, g1, g2, g3, g4, g5, g6, ⟨vs, g8⟩, g9⟩ | ⟨b, ob, g1, g2, g3, g6⟩
      rotate_right
      · refine .inr (.inr ⟨b, ob, g1, g2, by rw [← h7 (by rw [← h2', g3.n]; rw [g3.fl] at h5; omega)]; exact g3, fun hlt => ?_⟩)
        have hlt' := Nat.lt_of_lt_of_le hlt r.size
        obtain ⟨id', o1, l1, p1, p2, p3⟩ := ispre b (g6 hlt')
        exact (own id' o1 l1 b (ok.pre _ _ p1) p2 p3).2.1 hlt
      · refine .inl ⟨g1, g2, by rw [← h2']; exact g3.1, ?_⟩
        rcases Nat.lt_or_ge o'.n o'.fl with h | h
        · rw [← h7 h]; exact g3.2
        · exact h
      · refine .inr (.inl ⟨b, cs, g1, by rw [← h4]; exact g2, by rw [← h3]; exact g3, by rw [← h2']; exact g4, g5, fun hlt => ?_, ⟨vs, fun i j hi hj => ?_⟩, fun k hk' => ?_, ?_⟩)
        · have hlt' := Nat.lt_of_lt_of_le hlt r.size
          obtain ⟨id', o1, l1, p1, p2, p3⟩ := ispre b (g6 hlt')
          exact (own id' o1 l1 b (ok.pre _ _ p1) p2 p3).2.1 hlt
        · rw [← h2'] at hi; rw [← h3] at hj
          have := g8 i j hi hj
          rw [← h3]
          exact ⟨this.1, this.2.1, kz _ _ _ (h6 i j hi hj) this.2.2⟩
        · have := g9.1 k hk'
          rw [← h3]
          exact Nat.lt_of_lt_of_le this (Nat.mul_le_mul_right _ h5)
        · rcases Nat.lt_or_ge o'.n o'.fl with h | h
          · rw [← h7 h]; exact g9.2
          · exact h
    · have g6 := a.notK hb
      · by_cases hlt : b < X.w.heap.size
        · exact .inr (g6 hlt)
        · exact .inl (by omega)
  -- the caller's other objects
  have oth : ∀ id o, hget kp id = none → X.h id = some o → ∃ l, E3.L id = some l ∧ ObjAt w' E3 X.K X.w0.heap.size o l ∧ X.E.L id = some l ∧ (∀ b, l.A = some b → b < X.w.heap.size ∧ X.K' b) := by
    intro id o hk ho
    have hpn : hget X.pre id = none := by
      cases hp : hget X.pre id with
      | none => rfl
      | some o1 => obtain ⟨o', ho'⟩ := hpk id o1 hp; rw [hk] at ho'; cases ho'
    obtain ⟨l, hl, a⟩ := r.obj id o ho
    have hb : ∀ b, l.A = some b → b < X.w.heap.size ∧ X.K' b := fun b hb => ⟨(own id o l b ho hl hb).1, (own id o l b ho hl hb).2.2 hpn⟩
    refine ⟨l, by rw [hLn id hk]; exact hl, a.ext e3 (fun b hA => r2.keep b (hb b hA).1 (hb b hA).2) (fun b k hA hF => ?_), hl, hb⟩
    rcases r2.fnew _ hF with h1 | h1 | h1
    · exact h1
    · exact absurd h1 (by have := (hb b hA).1; simp; omega)
    · exact absurd (hb b hA).2 h1
  have all : ∀ id o, hupd X.h kp id = some o → ∃ l, E3.L id = some l ∧ ObjAt w' E3 X.K X.w0.heap.size o l := by
    intro id o ho
    rw [hupd_hget] at ho
    cases hk : hget kp id with
    | some o' => rw [hk] at ho; injection ho with ho; subst ho; obtain ⟨l, h1, h2, _⟩ := kpo id o' hk; exact ⟨l, h1, h2⟩
    | none => rw [hk] at ho; obtain ⟨l, h1, h2, _⟩ := oth id o hk ho; exact ⟨l, h1, h2⟩
  refine ⟨E3, e3, ⟨r2.os.trans r.os, r2.tape.trans r.tape, r2.output.trans r.output, Nat.le_trans r.size r2.size, fun k hk hK => (r2.keep k (Nat.lt_of_lt_of_le hk r.size) (notpre k hk hK)).trans (r.keep k hk hK), r2.frz, fun a ha => ?_, r.klib, r.lib, all, fun id id' o o' l l' b ho ho' hl hl' hb hb' => ?_⟩, fun g hg => ?_, fun g hg => hg, kz⟩
  · rcases r2.fnew a ha with h1 | h1 | h1
    · exact r.fnew a h1
    · exact .inr (.inl (Nat.le_trans r.size h1))
    · obtain ⟨id, o, l, p1, p2, p3⟩ := ispre _ h1
      by_cases hlt : a.block < X.w0.heap.size
      · exact .inr (.inr ((own id o l _ (ok.pre _ _ p1) p2 p3).2.1 hlt))
      · exact .inr (.inl (by omega))
  · rw [hupd_hget] at ho ho'
    cases hk : hget kp id with
    | some o1 =>
      obtain ⟨l1, h1, _, h3, h4⟩ := kpo id o1 hk
      rw [hl] at h1; injection h1 with h1; subst h1
      cases hk' : hget kp id' with
      | some o2 =>
        obtain ⟨l2, g1, _, g3, g4⟩ := kpo id' o2 hk'
        rw [hl'] at g1; injection g1 with g1; subst g1
        obtain ⟨p, hp, _⟩ := hkp id o1 hk
        obtain ⟨q, hq, _⟩ := hkp id' o2 hk'
        exact r2.inj id id' p q l l' b hp hq h3 g3 hb hb'
      | none =>
        rw [hk'] at ho'
        obtain ⟨l2, g1, _, g3, g4⟩ := oth id' o' hk' ho'
        rw [hl'] at g1; injection g1 with g1; subst g1
        rcases h4 b hb with h5 | h5
        · have := (g4 b hb').1; omega
        · exact absurd (g4 b hb').2 h5
    | none =>
      rw [hk] at ho
      obtain ⟨l1, h1, _, h3, h4⟩ := oth id o hk ho
      rw [hl] at h1; injection h1 with h1; subst h1
      cases hk' : hget kp id' with
      | some o2 =>
        obtain ⟨l2, g1, _, g3, g4⟩ := kpo id' o2 hk'
        rw [hl'] at g1; injection g1 with g1; subst g1
        rcases g4 b hb' with h5 | h5
        · have := (h4 b hb).1; omega
        · exact absurd (h4 b hb).2 h5
      | none =>
        rw [hk'] at ho'
        obtain ⟨l2, g1, _, g3, g4⟩ := oth id' o' hk' ho'
        rw [hl'] at g1; injection g1 with g1; subst g1
        exact r.inj id id' o o' l l' b ho ho' h3 g3 hb hb'
  · rcases hg with hg | ⟨id, o', hk, rfl⟩
    · exact hG2 g (e2.G g hg)
    · obtain ⟨o, ho, h1, _⟩ := hkp id o' hk
      obtain ⟨l, hl, a⟩ := r2.obj id o ho
      rw [← h1]
      exact hG2 _ a.G

/-- What a call ends with, in the reader's words. -/
inductive HEnd where
  | ret (x : HV)
  | pan (x : HV)
def EndRep (w : World) (E : Env) : Ending → HEnd → Prop
  | .returned v, .ret x => Rep w E v x
  | .panicked ch, .pan x => ∃ v, ch = [{ v := v, recovered := false }] ∧ Rep w E v x
  | _, _ => False
/-- What the call leaves: its end, the objects that go on being the caller's, and a clock. -/
def FunPost (X : Clr) (Post : HEnd → List (Nat × HObj) → Nat → Prop) (e : Ending) (w' : World) : Prop :=
  ∃ x kp c' E', Post x kp c' ∧ Ext X.w X.E w' E' ∧ R X.K X.w0 X.F0 E' (hupd X.h kp) w' ∧ (∀ g, E'.G g → g < c') ∧ (∀ g, E'.G g → X.E.G g ∨ ∃ id o, hget kp id = some o ∧ o.g = g) ∧ EndRep w' E' e x
def HFun (P : Program) (f : FuncId) (c : Nat) (args : List HV) (pre : List (Nat × HObj)) (Post : HEnd → List (Nat × HObj) → Nat → Prop) : Prop := FnOk P f ∧
  ∀ (X : Clr) (vs : List Value), X.Ok → X.pre = pre → RepAll X.w X.E vs args → (∀ g, X.E.G g → g < c) → Calls P f vs.toArray X.w (FunPost X Post)

theorem hget_mem {p : List (Nat × HObj)} {id : Nat} {o : HObj} (h : hget p id = some o) : (id, o) ∈ p := by
  induction p with
  | nil => cases h
  | cons q p ih =>
    obtain ⟨k, x⟩ := q
    rw [hget_cons] at h
    unfold hset at h
    split at h
    · rename_i e; injection h with h; subst h; subst e; exact List.mem_cons_self ..
    · exact List.mem_cons_of_mem _ (ih h)
section
variable {P : Program} {Post : HEnd → List (Nat × HObj) → Nat → Prop}
theorem hfun_of {f : FuncId} {fn : Func} {c : Code} (hf : P.funcs[f]? = some fn) (hb : fn.body = some c) (hn : (fn.name == "runtime.NumGoroutine") = false) (clk : Nat) (args : List HV) (pre : List (Nat × HObj)) (tm : List (Nat × TV)) (htm : slots 0 args = tm) (n : Nat) (hnt : fn.ntmps = n) (hlen : Nat.ble args.length n = true)
    (h : ∀ X : Clr, X.Ok → X.pre = pre → HWp X.ctx P c ⟨n, tm, pre, clk⟩ (bodyPost P fn (FunPost X Post))) : HFun P f clk args pre Post := by
  refine ⟨⟨fn, c, hf, hb, hn⟩, fun X vs ok hX hr hG => calls_of_wp hf hb (h X ok hX _ X.w ?_)⟩
  obtain ⟨hl, hg⟩ := hr.get
  have hlen : args.length ≤ n := by simpa using hlen
  have rs := ok.start
  rw [hX] at rs
  refine ⟨X.E, Ext.refl _ _, rs, hG, ?_, rfl, fun t x hx => ?_⟩
  · simp [hl, hnt]; omega
  · rw [← htm] at hx
    obtain ⟨i, y, rfl, h2, rfl⟩ := tget_slots args 0 t x hx
    obtain ⟨v, hv, hrep⟩ := hg i y h2
    have hi : i < vs.length := by
      rcases Nat.lt_or_ge i vs.length with h | h
      · exact h
      · rw [List.getElem?_eq_none h] at hv; cases hv
    have : ({ tmps := vs.toArray ++ Array.replicate (fn.ntmps - vs.toArray.size) undef, defers := [] } : Act).tmps.getD (0 + i) undef = v := by
      rw [Nat.zero_add]
      simp only [Array.getD_eq_getD_getElem?]
      rw [Array.getElem?_append_left (by simpa using hi)]
      simp [hv]
    rw [this]
    exact hrep
/-- What is kept, told anew. -/
def OKz (kp sh : List (Nat × HObj)) (o o' : HObj) : Prop := o.g = o'.g ∧ o.n = o'.n ∧ o.sz = o'.sz ∧ o.ty = o'.ty ∧ o.fl ≤ o'.fl ∧ (∀ i j, i < o.n → j < o.sz → Kz kp sh (o.f i j) (o'.f i j)) ∧ (o'.n < o'.fl → o = o')
theorem OKz.of {kp sh : List (Nat × HObj)} {g n sz ty fl : Nat} {f f' : Nat → Nat → HV} (h : ∀ i j, i < n → j < sz → Kz kp sh (f i j) (f' i j)) (hfn : fl ≤ n := by first | exact Nat.zero_le _ | exact Nat.le_refl _ | omega) : OKz kp sh ⟨g, n, sz, ty, fl, f⟩ ⟨g, n, sz, ty, fl, f'⟩ := ⟨rfl, rfl, rfl, rfl, Nat.le_refl _, h, fun h => absurd hfn (Nat.not_le_of_lt h)⟩
def Kept (kp0 sh hp : List (Nat × HObj)) : List (Nat × HObj) → Prop
  | [] => True
  | (id, o') :: r => (∃ o, hget hp id = some o ∧ OKz kp0 sh o o') ∧ Kept kp0 sh hp r
theorem Kept.get {kp0 sh hp : List (Nat × HObj)} : ∀ {kp : List (Nat × HObj)}, Kept kp0 sh hp kp → ∀ id o', hget kp id = some o' → ∃ o, hget hp id = some o ∧ OKz kp0 sh o o'
  | [], _, id, o', h => by cases h
  | (k, x) :: r, hk, id, o', h => by
    rw [hget_cons] at h
    unfold hset at h
    split at h
    · rename_i e; injection h with h; subst h; subst e; exact hk.1
    · exact Kept.get hk.2 id o' h
theorem FunPost.of {X : Clr} (ok : X.Ok) {E : Env} {s : HSt} {w' : World} (e0 : Ext X.w X.E w' E) (r : R X.K' X.w X.E.F E (hget s.hp) w') (hG : ∀ g, E.G g → g < s.clk) (sh : List (Nat × HObj)) (hd : dupfree (sh.map (·.1)) = true) (hsh : ∀ p ∈ sh, hget s.hp p.1 = some p.2)
    (kp : List (Nat × HObj)) (hpk : (X.pre.all fun p => (hget kp p.1).isSome) = true) (hks : (kp.all fun p => !(sh.map (·.1)).any (Nat.beq p.1)) = true) (hkp : Kept kp sh s.hp kp) {x y : HV} {v : Value} (hz : Kz kp sh x y) (hv : Rep w' E v x) (hP : Post (.ret y) kp s.clk) : FunPost X Post (.returned v) w' := by
  obtain ⟨E1, e1, hL, hG1, hs1, r1⟩ := r.shareAll sh hd hsh
  obtain ⟨E3, e3, r3, hG3, hGk, kz⟩ := ok.back (e0.trans e1) r1 (fun g hg => hG g (by rw [← hG1]; exact hg)) (kp := kp) (sh := sh) hs1 (fun id o ho => by
      have := List.all_eq_true.1 hpk _ (hget_mem ho)
      exact Option.isSome_iff_exists.1 this) (fun id o' ho' => by
      obtain ⟨o, h1, h2⟩ := hkp.get id o' ho'
      have := List.all_eq_true.1 hks _ (hget_mem ho')
      refine ⟨o, ?_, h2⟩
      rw [hupd_ne _ _ _ (by simpa [List.map_map, Function.comp_def] using this)]
      exact h1)
  exact ⟨.ret y, kp, s.clk, E3, hP, e3, r3, hG3, hGk, kz v x y hz (hv.ext e1)⟩
theorem hf_ret0 {X : Clr} (ok : X.Ok) {fn : Func} {s : HSt} {y : HV} (hres : fn.results = #[]) (sh : List (Nat × HObj)) (hd : dupfree (sh.map (·.1)) = true) (hsh : ∀ p ∈ sh, hget s.hp p.1 = some p.2)
    (kp : List (Nat × HObj)) (hpk : (X.pre.all fun p => (hget kp p.1).isSome) = true) (hks : (kp.all fun p => !(sh.map (·.1)).any (Nat.beq p.1)) = true) (hz : Kz kp sh (.tup 0 fun _ => default) y) (hP : Post (.ret y) kp s.clk) (hkp : Kept kp sh s.hp kp) : HQ X.ctx (bodyPost P fn (FunPost X Post)) .ret s := by
  intro a w' ⟨E, e0, r, hG, hsz, hdf, ht⟩
  refine ⟨hdf, _, ?_, FunPost.of ok e0 r hG sh hd hsh kp hpk hks hkp hz (.tup #[] 0 (fun _ => default) (fun _ => undef) rfl (fun i hi => absurd hi (Nat.not_lt_zero _)) (fun i hi => absurd hi (Nat.not_lt_zero _))) hP⟩
  show (results fn a.tmps).run P w' = .ok (.tuple #[]) w'
  unfold results
  rw [hres]
  simp
theorem hf_ret1 {X : Clr} (ok : X.Ok) {fn : Func} {rv : ResultVar} {s : HSt} {x y : HV} (hres : fn.results = #[rv]) (hrv : RVal P s rv x) (sh : List (Nat × HObj)) (hd : dupfree (sh.map (·.1)) = true) (hsh : ∀ p ∈ sh, hget s.hp p.1 = some p.2)
    (kp : List (Nat × HObj)) (hpk : (X.pre.all fun p => (hget kp p.1).isSome) = true) (hks : (kp.all fun p => !(sh.map (·.1)).any (Nat.beq p.1)) = true) (hz : Kz kp sh x y) (hP : Post (.ret y) kp s.clk) (hkp : Kept kp sh s.hp kp) : HQ X.ctx (bodyPost P fn (FunPost X Post)) .ret s := by
  intro a w' ⟨E, e0, r, hG, hsz, hdf, ht⟩
  obtain ⟨v, h1, h2⟩ := hrv X.ctx a w' E r ht
  refine ⟨hdf, v, ?_, FunPost.of ok e0 r hG sh hd hsh kp hpk hks hkp hz h2 hP⟩
  have : (results fn a.tmps).run P w' = .ok v w' := by
    unfold results
    rw [hres]
    cases rv with
    | tmp t => simp at h1 ⊢; exact h1
    | cell p t => simp [Sem.run_bind] at h1 ⊢; simp [h1]
  exact this
theorem hf_ret2 {X : Clr} (ok : X.Ok) {fn : Func} {rv1 rv2 : ResultVar} {s : HSt} {x1 x2 y : HV} (hres : fn.results = #[rv1, rv2]) (hrv1 : RVal P s rv1 x1) (hrv2 : RVal P s rv2 x2) (sh : List (Nat × HObj)) (hd : dupfree (sh.map (·.1)) = true) (hsh : ∀ p ∈ sh, hget s.hp p.1 = some p.2)
    (kp : List (Nat × HObj)) (hpk : (X.pre.all fun p => (hget kp p.1).isSome) = true) (hks : (kp.all fun p => !(sh.map (·.1)).any (Nat.beq p.1)) = true) (hz : Kz kp sh (t2 x1 x2) y) (hP : Post (.ret y) kp s.clk) (hkp : Kept kp sh s.hp kp) : HQ X.ctx (bodyPost P fn (FunPost X Post)) .ret s := by
  intro a w' ⟨E, e0, r, hG, hsz, hdf, ht⟩
  obtain ⟨v1, h1, g1⟩ := hrv1 X.ctx a w' E r ht
  obtain ⟨v2, h2, g2⟩ := hrv2 X.ctx a w' E r ht
  have hrep : Rep w' E (.tuple #[v1, v2]) (.tup 2 (fun i => match i with | 0 => x1 | _ => x2)) :=
    .tup _ 2 _ (fun i => match i with | 0 => v1 | _ => v2) rfl (fun i hi => by match i, hi with | 0, _ => rfl | 1, _ => rfl) (fun i hi => by match i, hi with | 0, _ => exact g1 | 1, _ => exact g2)
  refine ⟨hdf, _, ?_, FunPost.of ok e0 r hG sh hd hsh kp hpk hks hkp hz hrep hP⟩
  have : (results fn a.tmps).run P w' = .ok (.tuple #[v1, v2]) w' := by
    unfold results
    rw [hres]
    cases rv1 <;> cases rv2 <;> (simp [Sem.run_bind] at h1 h2 ⊢)
    all_goals first | done | (try (first | rw [andThen_chain h1] | skip); try (first | rw [andThen_chain h2] | skip); try simp [h1, h2])
  exact this
theorem hf_ret3 {X : Clr} (ok : X.Ok) {fn : Func} {rv1 rv2 rv3 : ResultVar} {s : HSt} {x1 x2 x3 y : HV} (hres : fn.results = #[rv1, rv2, rv3]) (hrv1 : RVal P s rv1 x1) (hrv2 : RVal P s rv2 x2) (hrv3 : RVal P s rv3 x3) (sh : List (Nat × HObj)) (hd : dupfree (sh.map (·.1)) = true) (hsh : ∀ p ∈ sh, hget s.hp p.1 = some p.2)
    (kp : List (Nat × HObj)) (hpk : (X.pre.all fun p => (hget kp p.1).isSome) = true) (hks : (kp.all fun p => !(sh.map (·.1)).any (Nat.beq p.1)) = true) (hz : Kz kp sh (t3 x1 x2 x3) y) (hP : Post (.ret y) kp s.clk) (hkp : Kept kp sh s.hp kp) : HQ X.ctx (bodyPost P fn (FunPost X Post)) .ret s := by
  intro a w' ⟨E, e0, r, hG, hsz, hdf, ht⟩
  obtain ⟨v1, h1, g1⟩ := hrv1 X.ctx a w' E r ht
  obtain ⟨v2, h2, g2⟩ := hrv2 X.ctx a w' E r ht
  obtain ⟨v3, h3, g3⟩ := hrv3 X.ctx a w' E r ht
  have hrep : Rep w' E (.tuple #[v1, v2, v3]) (.tup 3 (fun i => match i with | 0 => x1 | 1 => x2 | _ => x3)) :=
    .tup _ 3 _ (fun i => match i with | 0 => v1 | 1 => v2 | _ => v3) rfl (fun i hi => by match i, hi with | 0, _ => rfl | 1, _ => rfl | 2, _ => rfl) (fun i hi => by match i, hi with | 0, _ => exact g1 | 1, _ => exact g2 | 2, _ => exact g3)
  refine ⟨hdf, _, ?_, FunPost.of ok e0 r hG sh hd hsh kp hpk hks hkp hz hrep hP⟩
  have : (results fn a.tmps).run P w' = .ok (.tuple #[v1, v2, v3]) w' := by
    unfold results
    rw [hres]
    cases rv1 <;> cases rv2 <;> cases rv3 <;> (simp [Sem.run_bind] at h1 h2 h3 ⊢)
    all_goals first | done | (try (first | rw [andThen_chain h1] | skip); try (first | rw [andThen_chain h2] | skip); try (first | rw [andThen_chain h3] | skip); try simp [h1, h2, h3])
  exact this
/-- Falling off the end is a return. -/
theorem hq_fall {C : Ctx} {fn : Func} {R0 : Ending → World → Prop} {s : HSt} (h : HQ C (bodyPost P fn R0) .ret s) : HQ C (bodyPost P fn R0) .normal s := h

/-- What a panic asks. -/
def HPan (C : Ctx) (Q : Exit → Act → World → Prop) (s : HSt) (x : HV) : Prop := ∀ a w, ∀ E v, Ext C.w0 C.E0 w E → R C.K C.w0 C.E0.F E (hget s.hp) w → (∀ g, E.G g → g < s.clk) → a.tmps.size = s.n → DefOk w E C.ds a.defers → (∀ t x, tget s.tm t = some x → TVRep w E a (a.tmps.getD t undef) x) → Rep w E v x → Q (.panic [{ v := v, recovered := false }]) a w
theorem hf_call {C : Ctx} {ops : Array Oper} {Q : Exit → Act → World → Prop} {n clk : Nat} {tm : List (Nat × TV)} {hp : List (Nat × HObj)} {rest : List Oper} {ty : TypeId} {pos : String} {af : Array Edge} {f : FuncId} {args : List Operand} {at_ : Array TypeId} {xs : List HV} {pre : List (Nat × HObj)} (d : Nat)
    (hc : HFun P f clk xs pre Post) (hx : ovAll (pview (tget tm)) args xs) (hpre : ∀ p ∈ pre, hget hp p.1 = some p.2) (hlt : Nat.blt d n = true) (hk : nokey tm d = true)
    (h : ∀ r kp c', Post (.ret r) kp c' → HSeq C P ops rest ⟨n, (d, .v r) :: tm, kp ++ hp, c'⟩ Q) (hpan : ∀ x kp c', Post (.pan x) kp c' → HPan C Q ⟨n, tm, kp ++ hp, c'⟩ x) :
    HSeq C P ops (⟨some d, .call ⟨.value (.func f), args.toArray, at_⟩, ty, pos, af, none⟩ :: rest) ⟨n, tm, hp, clk⟩ Q := by
  intro a w ⟨E, e0, r, hG, hsz, hdf, ht⟩
  have hlt : d < n := by simpa [Nat.blt_eq] using hlt
  unfold wpSeq
  rw [if_pos (by simp [Region.wanted])]
  have hrep := hx.rep (w := w) (E := E) (ρ := a.eval) (fun x hv hx' h => by
    cases x with
    | tmp t =>
      simp only [ovl, pview] at h
      cases hq : tget tm t with
      | none => rw [hq] at h; cases h
      | some u => rw [hq] at h; cases u with
        | v y => injection h with h; subst h; exact ht t _ hq
        | un j b y => cases h
    | const v => exact rep_cst w E _ v _ h
    | global k => injection h with h; subst h; exact .imm _
    | func f => injection h with h; subst h; exact .fn (.func f) #[] 0 _ (fun _ => undef) rfl (fun i hi => absurd hi (Nat.not_lt_zero _)) (fun i hi => absurd hi (Nat.not_lt_zero _)))
  unfold Oper.wp execOp
  have hargs : args.toArray.map a.eval = (args.map a.eval).toArray := by simp
  simp only [resolve, Act.eval, Deferred.ofValue, invoke, Sem.run_bind, Sem.run_pure, Result.andThen_ok, Array.empty_append, Array.append_empty]
  rw [run_callFunc hc.1]
  simp only [Oper.upon]
  have hcalls := hc.2 ⟨C.K, C.w0, C.E0.F, E, hget hp, w, pre⟩ (args.map a.eval) ⟨r, fun id o ho => hpre (id, o) (hget_mem ho)⟩ rfl hrep hG
  rw [← hargs] at hcalls
  refine Calls.mono hcalls ?_
  rintro e w' ⟨x, kp, c', E', hP, e', r', hG', _, hv⟩
  cases e with
  | returned v =>
    cases x with
    | pan x => exact hv.elim
    | ret x =>
      refine h x kp c' hP _ w' ⟨E', e0.trans e', by simp only [hget_append]; exact r', hG', by simp [Act.put, hsz], hdf.ext e', fun t y hy => ?_⟩
      simp only [tget_cons] at hy
      split at hy
      · rename_i htd
        subst htd
        injection hy with hy
        subst hy
        rw [getD_put_same (by rw [hsz]; exact hlt)]
        exact hv
      · rename_i htd
        rw [getD_put_ne htd]
        have := (ht t y hy).ext e'
        cases y with
        | v z => exact this
        | un j b z =>
          have hne := nokey_spec hk t j b z hy
          simp only [TVRep, getD_put_ne hne] at this ⊢; exact this
  | panicked ch =>
    cases x with
    | ret x => exact hv.elim
    | pan x =>
      obtain ⟨v, rfl, hv⟩ := hv
      exact hpan x kp c' hP a w' E' v (e0.trans e') (by simp only [hget_append]; exact r') hG' hsz (hdf.ext e') (fun t y hy => (ht t y hy).ext e') hv
  | outgrown => cases x <;> exact hv.elim
/-- A panic goes on to the caller. -/
theorem hf_pan {X : Clr} (ok : X.Ok) {fn : Func} {s : HSt} {x y : HV} (kp : List (Nat × HObj)) (hpk : (X.pre.all fun p => (hget kp p.1).isSome) = true) (hkp : Kept kp [] s.hp kp) (hz : Kz kp [] x y) (hP : Post (.pan y) kp s.clk) : HPan X.ctx (bodyPost P fn (FunPost X Post)) s x := by
  intro a w' E v e0 r hG hsz hdf ht hv
  refine ⟨hdf, ?_⟩
  obtain ⟨E3, e3, r3, hG3, hGk, kz⟩ := ok.back e0 r hG (kp := kp) (sh := []) (fun id o h => by cases h) (fun id o ho => by
      have := List.all_eq_true.1 hpk _ (hget_mem ho)
      exact Option.isSome_iff_exists.1 this) (fun id o' ho' => hkp.get id o' ho')
  exact ⟨.pan y, kp, s.clk, E3, hP, e3, r3, hG3, hGk, v, rfl, kz v x y hz hv⟩
/-- Objects are frozen, a slot told anew. -/
theorem hsub_shr {C : Ctx} {n clk : Nat} {tm : List (Nat × TV)} {hp : List (Nat × HObj)} (t : Nat) (sh : List (Nat × HObj)) (hd : dupfree (sh.map (·.1)) = true) (hsh : ∀ p ∈ sh, hget hp p.1 = some p.2) {x y : HV} (ht : tget tm t = some (.v x)) (hz : Fz sh x y) :
    HSub C ⟨n, tm, hp, clk⟩ ⟨n, (t, .v y) :: tm, sh.map (fun p => (p.1, p.2.full)) ++ hp, clk⟩ := by
  intro a w ⟨E, e0, r, hG, hsz, hdf, htm⟩
  obtain ⟨E1, e1, hL, hG1, hs1, r1⟩ := r.shareAll sh hd hsh
  refine ⟨E1, e0.trans e1, by simp only [hget_append]; exact r1, fun g hg => hG g (by rw [← hG1]; exact hg), hsz, hdf.ext e1, fun t' z hz' => ?_⟩
  simp only [tget_cons] at hz'
  split at hz'
  · rename_i e; subst e; injection hz' with hz'; subst hz'
    exact (hz.sound hs1 ((htm t' _ ht).ext e1)).ext (Ext.just fun _ h => h)
  · exact (htm t' z hz').ext e1
theorem HSub.seq {C : Ctx} {ops : Array Oper} {Q : Exit → Act → World → Prop} {s s' : HSt} {l : List Oper} (hs : HSub C s s') (h : HSeq C P ops l s' Q) : HSeq C P ops l s Q := fun a w ha => h a w (hs a w ha)

@[reducible] def RetP {α : Type} (I : α → Nat → Prop) (r : α → HV) (kp : α → List (Nat × HObj)) : HEnd → List (Nat × HObj) → Nat → Prop := fun e o c' => ∃ x, I x c' ∧ e = .ret (r x) ∧ o = kp x
@[reducible] def RoP {α β : Type} (I : α → Nat → Prop) (r : α → HV) (kp : α → List (Nat × HObj)) (J : β → Nat → Prop) (q : β → HV) (kq : β → List (Nat × HObj)) : HEnd → List (Nat × HObj) → Nat → Prop := fun e o c' => (∃ x, I x c' ∧ e = .ret (r x) ∧ o = kp x) ∨ (∃ y, J y c' ∧ e = .pan (q y) ∧ o = kq y)
section
variable {α β : Type} {I : α → Nat → Prop} {r : α → HV} {kpf : α → List (Nat × HObj)} {J : β → Nat → Prop} {q : β → HV} {kqf : β → List (Nat × HObj)}
theorem hf_callR {C : Ctx} {ops : Array Oper} {Q : Exit → Act → World → Prop} {n clk : Nat} {tm : List (Nat × TV)} {hp : List (Nat × HObj)} {rest : List Oper} {ty : TypeId} {pos : String} {af : Array Edge} {f : FuncId} {args : List Operand} {at_ : Array TypeId} {xs : List HV} {pre : List (Nat × HObj)} (d : Nat)
    (hc : HFun P f clk xs pre (RetP I r kpf)) (hx : ovAll (pview (tget tm)) args xs) (hpre : ∀ p ∈ pre, hget hp p.1 = some p.2) (hlt : Nat.blt d n = true) (hk : nokey tm d = true)
    (h : ∀ x c', I x c' → HSeq C P ops rest ⟨n, (d, .v (r x)) :: tm, kpf x ++ hp, c'⟩ Q) :
    HSeq C P ops (⟨some d, .call ⟨.value (.func f), args.toArray, at_⟩, ty, pos, af, none⟩ :: rest) ⟨n, tm, hp, clk⟩ Q :=
  hf_call d hc hx hpre hlt hk (fun _ _ c' ⟨x, hI, he, hk⟩ => by injection he with he; subst he; subst hk; exact h x c' hI) (fun _ _ _ ⟨_, _, he, _⟩ => by cases he)
theorem hf_callRP {C : Ctx} {ops : Array Oper} {Q : Exit → Act → World → Prop} {n clk : Nat} {tm : List (Nat × TV)} {hp : List (Nat × HObj)} {rest : List Oper} {ty : TypeId} {pos : String} {af : Array Edge} {f : FuncId} {args : List Operand} {at_ : Array TypeId} {xs : List HV} {pre : List (Nat × HObj)} (d : Nat)
    (hc : HFun P f clk xs pre (RoP I r kpf J q kqf)) (hx : ovAll (pview (tget tm)) args xs) (hpre : ∀ p ∈ pre, hget hp p.1 = some p.2) (hlt : Nat.blt d n = true) (hk : nokey tm d = true)
    (hpan : ∀ y c', J y c' → HPan C Q ⟨n, tm, kqf y ++ hp, c'⟩ (q y))
    (h : ∀ x c', I x c' → HSeq C P ops rest ⟨n, (d, .v (r x)) :: tm, kpf x ++ hp, c'⟩ Q) :
    HSeq C P ops (⟨some d, .call ⟨.value (.func f), args.toArray, at_⟩, ty, pos, af, none⟩ :: rest) ⟨n, tm, hp, clk⟩ Q :=
  hf_call d hc hx hpre hlt hk (fun _ _ c' hP => by
    rcases hP with ⟨x, hI, he, hk⟩ | ⟨_, _, he, _⟩
    · injection he with he; subst he; subst hk; exact h x c' hI
    · cases he) (fun _ _ c' hP => by
    rcases hP with ⟨_, _, he, _⟩ | ⟨y, hJ, he, hk⟩
    · cases he
    · injection he with he; subst he; subst hk; exact hpan y c' hJ)
/-- How a function that returns says so. -/
def RetS (P : Program) (I : α → Nat → Prop) (r : α → HV) (kpf : α → List (Nat × HObj)) (Post : HEnd → List (Nat × HObj) → Nat → Prop) : Prop := ∀ x c', I x c' → Post (.ret (r x)) (kpf x) c'
theorem RetS.one : RetS P I r kpf (RetP I r kpf) := fun x _ h => ⟨x, h, rfl, rfl⟩
theorem RetS.two : RetS P I r kpf (RoP I r kpf J q kqf) := fun x _ h => .inl ⟨x, h, rfl, rfl⟩
theorem hf_retR0 {X : Clr} (ok : X.Ok) {pre : List (Nat × HObj)} (hX : X.pre = pre) (hS : RetS P I r kpf Post) {fn : Func} {s : HSt} (hres : fn.results = #[]) (sh : List (Nat × HObj)) (hd : dupfree (sh.map (·.1)) = true) (hsh : ∀ p ∈ sh, hget s.hp p.1 = some p.2)
    (x : α) (hI : I x s.clk) (hpk : (pre.all fun p => (hget (kpf x) p.1).isSome) = true) (hks : ((kpf x).all fun p => !(sh.map (·.1)).any (Nat.beq p.1)) = true) (hz : Kz (kpf x) sh (.tup 0 fun _ => default) (r x)) (hkp : Kept (kpf x) sh s.hp (kpf x)) : HQ X.ctx (bodyPost P fn (FunPost X Post)) .ret s :=
  hf_ret0 ok hres sh hd hsh (kpf x) (by rw [hX]; exact hpk) hks hz (hS x _ hI) hkp
theorem hf_retR1 {X : Clr} (ok : X.Ok) {pre : List (Nat × HObj)} (hX : X.pre = pre) (hS : RetS P I r kpf Post) {fn : Func} {s : HSt} {rv : ResultVar} {v : HV} (hres : fn.results = #[rv]) (hrv : RVal P s rv v) (sh : List (Nat × HObj)) (hd : dupfree (sh.map (·.1)) = true) (hsh : ∀ p ∈ sh, hget s.hp p.1 = some p.2)
    (x : α) (hI : I x s.clk) (hpk : (pre.all fun p => (hget (kpf x) p.1).isSome) = true) (hks : ((kpf x).all fun p => !(sh.map (·.1)).any (Nat.beq p.1)) = true) (hz : Kz (kpf x) sh v (r x)) (hkp : Kept (kpf x) sh s.hp (kpf x)) : HQ X.ctx (bodyPost P fn (FunPost X Post)) .ret s :=
  hf_ret1 ok hres hrv sh hd hsh (kpf x) (by rw [hX]; exact hpk) hks hz (hS x _ hI) hkp
theorem hf_retR2 {X : Clr} (ok : X.Ok) {pre : List (Nat × HObj)} (hX : X.pre = pre) (hS : RetS P I r kpf Post) {fn : Func} {s : HSt} {rv1 rv2 : ResultVar} {v1 v2 : HV} (hres : fn.results = #[rv1, rv2]) (hrv1 : RVal P s rv1 v1) (hrv2 : RVal P s rv2 v2) (sh : List (Nat × HObj)) (hd : dupfree (sh.map (·.1)) = true) (hsh : ∀ p ∈ sh, hget s.hp p.1 = some p.2)
    (x : α) (hI : I x s.clk) (hpk : (pre.all fun p => (hget (kpf x) p.1).isSome) = true) (hks : ((kpf x).all fun p => !(sh.map (·.1)).any (Nat.beq p.1)) = true) (hz : Kz (kpf x) sh (t2 v1 v2) (r x)) (hkp : Kept (kpf x) sh s.hp (kpf x)) : HQ X.ctx (bodyPost P fn (FunPost X Post)) .ret s :=
  hf_ret2 ok hres hrv1 hrv2 sh hd hsh (kpf x) (by rw [hX]; exact hpk) hks hz (hS x _ hI) hkp
theorem hf_retR3 {X : Clr} (ok : X.Ok) {pre : List (Nat × HObj)} (hX : X.pre = pre) (hS : RetS P I r kpf Post) {fn : Func} {s : HSt} {rv1 rv2 rv3 : ResultVar} {v1 v2 v3 : HV} (hres : fn.results = #[rv1, rv2, rv3]) (hrv1 : RVal P s rv1 v1) (hrv2 : RVal P s rv2 v2) (hrv3 : RVal P s rv3 v3) (sh : List (Nat × HObj)) (hd : dupfree (sh.map (·.1)) = true) (hsh : ∀ p ∈ sh, hget s.hp p.1 = some p.2)
    (x : α) (hI : I x s.clk) (hpk : (pre.all fun p => (hget (kpf x) p.1).isSome) = true) (hks : ((kpf x).all fun p => !(sh.map (·.1)).any (Nat.beq p.1)) = true) (hz : Kz (kpf x) sh (t3 v1 v2 v3) (r x)) (hkp : Kept (kpf x) sh s.hp (kpf x)) : HQ X.ctx (bodyPost P fn (FunPost X Post)) .ret s :=
  hf_ret3 ok hres hrv1 hrv2 hrv3 sh hd hsh (kpf x) (by rw [hX]; exact hpk) hks hz (hS x _ hI) hkp
theorem hf_panR {X : Clr} (ok : X.Ok) {pre : List (Nat × HObj)} (hX : X.pre = pre) {fn : Func} {s : HSt} {v : HV} (y : β) (hJ : J y s.clk) (hpk : (pre.all fun p => (hget (kqf y) p.1).isSome) = true) (hz : Kz (kqf y) [] v (q y)) (hkp : Kept (kqf y) [] s.hp (kqf y)) :
    HPan X.ctx (bodyPost P fn (FunPost X (RoP I r kpf J q kqf))) s v :=
  hf_pan ok (kqf y) (by rw [hX]; exact hpk) hkp hz (.inr ⟨y, hJ, rfl, rfl⟩)
theorem kz_t2 {kp sh : List (Nat × HObj)} {x1 x2 y1 y2 : HV} (h1 : Kz kp sh x1 y1) (h2 : Kz kp sh x2 y2) : Kz kp sh (t2 x1 x2) (t2 y1 y2) := .tup _ _ _ fun i hi => by
  match i, hi with
  | 0, _ => exact h1
  | 1, _ => exact h2
theorem kz_t3 {kp sh : List (Nat × HObj)} {x1 x2 x3 y1 y2 y3 : HV} (h1 : Kz kp sh x1 y1) (h2 : Kz kp sh x2 y2) (h3 : Kz kp sh x3 y3) : Kz kp sh (t3 x1 x2 x3) (t3 y1 y2 y3) := .tup _ _ _ fun i hi => by
  match i, hi with
  | 0, _ => exact h1
  | 1, _ => exact h2
  | 2, _ => exact h3
section
variable {kp sh : List (Nat × HObj)} {g ty fl : Nat} {f f' : Nat → Nat → HV}
theorem okz1 (h0 : Kz kp sh (f 0 0) (f' 0 0)) (hfn : fl ≤ 1 := by first | exact Nat.zero_le _ | exact Nat.le_refl _ | omega) : OKz kp sh ⟨g, 1, 1, ty, fl, f⟩ ⟨g, 1, 1, ty, fl, f'⟩ := .of (hfn := hfn) fun i j hi hj => by
  obtain rfl : i = 0 := by omega
  match j, hj with | 0, _ => exact h0
theorem okz2 (h0 : Kz kp sh (f 0 0) (f' 0 0)) (h1 : Kz kp sh (f 0 1) (f' 0 1)) (hfn : fl ≤ 1 := by first | exact Nat.zero_le _ | exact Nat.le_refl _ | omega) : OKz kp sh ⟨g, 1, 2, ty, fl, f⟩ ⟨g, 1, 2, ty, fl, f'⟩ := .of (hfn := hfn) fun i j hi hj => by
  obtain rfl : i = 0 := by omega
  match j, hj with | 0, _ => exact h0 | 1, _ => exact h1
theorem okz4 (h0 : Kz kp sh (f 0 0) (f' 0 0)) (h1 : Kz kp sh (f 0 1) (f' 0 1)) (h2 : Kz kp sh (f 0 2) (f' 0 2)) (h3 : Kz kp sh (f 0 3) (f' 0 3)) (hfn : fl ≤ 1 := by first | exact Nat.zero_le _ | exact Nat.le_refl _ | omega) : OKz kp sh ⟨g, 1, 4, ty, fl, f⟩ ⟨g, 1, 4, ty, fl, f'⟩ := .of (hfn := hfn) fun i j hi hj => by
  obtain rfl : i = 0 := by omega
  match j, hj with | 0, _ => exact h0 | 1, _ => exact h1 | 2, _ => exact h2 | 3, _ => exact h3
end
end
end

def HFunD (P : Program) (f : FuncId) (args : List HV) (pre : List (Nat × HObj)) (r : HV) (post : List (Nat × HObj)) : Prop := ∀ c, HFun P f c args pre (RetP (fun (_ : Unit) _ => True) (fun _ => r) (fun _ => post))
/-- Each object of the second list bears a clock of the first. -/
def Clocks (pre post : List (Nat × HObj)) : Prop := ∀ id o, hget post id = some o → ∃ q ∈ pre, q.2.g = o.g
theorem clocks_nil {pre : List (Nat × HObj)} : Clocks pre [] := fun id o h => by cases h
theorem clocks_cons {pre post : List (Nat × HObj)} {id : Nat} {o o' : HObj} {id' : Nat} (hm : (id', o') ∈ pre) (hg : o'.g = o.g) (h : Clocks pre post) : Clocks pre ((id, o) :: post) := fun k x hx => by
  rw [hget_cons] at hx
  unfold hset at hx
  split at hx
  · injection hx with hx; subst hx; exact ⟨_, hm, hg⟩
  · exact h k x hx
theorem HFunD.sem {P : Program} {f : FuncId} {args : List HV} {pre post : List (Nat × HObj)} {r : HV} (hc : HFunD P f args pre r post) (hk : Clocks pre post) {K : Nat → Prop} {w0 w : World} {F0 : Addr → Prop} {E : Env} {h : Nat → Option HObj} (rr : R K w0 F0 E h w) (hpre : ∀ p ∈ pre, h p.1 = some p.2) (vs : List Value) (hr : RepAll w E vs args) (hb : ∃ c, ∀ g, E.G g → g < c) :
    Calls P f vs.toArray w fun e w' => ∃ v E', e = .returned v ∧ Ext w E w' E' ∧ R K w0 F0 E' (hupd h post) w' ∧ (∀ g, E'.G g → E.G g) ∧ Rep w' E' v r := by
  obtain ⟨c, hG⟩ := hb
  refine ((hc c).2 ⟨K, w0, F0, E, h, w, pre⟩ vs ⟨rr, fun id o ho => hpre (id, o) (hget_mem ho)⟩ rfl hr hG).mono ?_
  rintro e w' ⟨x, kp, c', E', ⟨_, _, rfl, rfl⟩, e', r', _, hGk, hv⟩
  cases e with
  | returned v =>
    refine ⟨v, E', rfl, e', r', fun g hg => ?_, hv⟩
    rcases hGk g hg with h1 | ⟨id, o, ho, rfl⟩
    · exact h1
    · obtain ⟨q, hq, hqg⟩ := hk id o ho
      rw [← hqg]
      obtain ⟨l, hl, a⟩ := rr.obj q.1 q.2 (hpre q hq)
      exact a.G
  | panicked ch => exact hv.elim
  | outgrown => exact hv.elim
end Go.Proofs.YtmcchhmgchgaaaaDoor

namespace Go.Proofs.YtmcchhmgchgaaaaDoor
set_option linter.unusedSimpArgs false
set_option linter.unusedVariables false
open Go.RowKit

@[reducible] def strV (l : List UInt8) : HV := .imm (.string ⟨l.toArray⟩)
@[reducible] def u8V (c : UInt8) : HV := .imm (.int .u8 (c.toNat : Int))
theorem ba_list (l : List UInt8) : (⟨l.toArray⟩ : ByteArray).toList = l := by rw [ByteArray.toList_eq]
theorem ba_size (l : List UInt8) : (⟨l.toArray⟩ : ByteArray).size = l.length := by simp [ByteArray.size]
theorem ba_app (l m : List UInt8) : (⟨l.toArray⟩ ++ ⟨m.toArray⟩ : ByteArray) = ⟨(l ++ m).toArray⟩ := by
  have h : (⟨l.toArray⟩ ++ ⟨m.toArray⟩ : ByteArray).data = (l ++ m).toArray := by
    apply Array.ext'
    rw [ByteArray.data_append, Array.toList_append]
  have h2 : (⟨l.toArray⟩ ++ ⟨m.toArray⟩ : ByteArray) = ⟨(⟨l.toArray⟩ ++ ⟨m.toArray⟩ : ByteArray).data⟩ := rfl
  rw [h2, h]
theorem ba_cut (l : List UInt8) (a b : Nat) : (⟨l.toArray⟩ : ByteArray).extract a b = ⟨((l.drop a).take (b - a)).toArray⟩ := by
  have h : ((⟨l.toArray⟩ : ByteArray).extract a b).data = ((l.drop a).take (b - a)).toArray := by
    apply Array.ext'
    rw [ByteArray.data_extract]
    simp [Array.toList_extract, List.extract, List.drop_take]
  have h2 : (⟨l.toArray⟩ : ByteArray).extract a b = ⟨((⟨l.toArray⟩ : ByteArray).extract a b).data⟩ := rfl
  rw [h2, h]

section
variable {K : Nat → Prop} {w0 w : World} {F0 : Addr → Prop} {E : Env} {h : Nat → Option HObj}
end

section
variable {P : Program} {ov : Nat → Option HV} {g : Nat} {d : Option Tmp} {ty T yT : TypeId} {pos : String} {af : Array Edge} {gd : Option (Nat × Bool)} {x y : Operand} {l m : List UInt8}
theorem hop_len_strl {at_ : Array TypeId} (hT : at_[0]? = some T) (hE : P.underlying T = some .string) (h1 : ovl ov x = some (strV l)) :
    HOp P ⟨d, .call ⟨.builtin .len, #[x], at_⟩, ty, pos, af, gd⟩ ov g [] (.imm (.int .i64 (l.length : Int))) [] := by
  have := hop_len_str (P := P) (ov := ov) (g := g) (d := d) (ty := ty) (pos := pos) (af := af) (gd := gd) hT hE h1
  rwa [ba_size] at this
theorem hop_ix_strl {k : IntKind} {i : Int} (hT : P.underlying T = some .string) (h1 : ovl ov x = some (strV l)) (h2 : ovl ov y = some (.imm (.int k i))) (hi0 : 0 ≤ i) (hi : i < (l.length : Int)) :
    HOp P ⟨d, .index T x y, ty, pos, af, gd⟩ ov g [] (u8V (l.getD i.toNat 0)) [] :=
  hop_ix_str hT h1 h2 hi0 (by rw [ba_size]; exact hi)
theorem hop_cut_strl {lo hi : Option Operand} {a b : Int} (hT : P.underlying T = some .string) (h1 : ovl ov x = some (strV l))
    (hl : lo = none ∧ a = 0 ∨ ∃ k z, lo = some z ∧ ovl ov z = some (.imm (.int k a))) (hh : hi = none ∧ b = l.length ∨ ∃ k z, hi = some z ∧ ovl ov z = some (.imm (.int k b))) (h0 : 0 ≤ a) (hlh : a ≤ b) (hn : b ≤ l.length) :
    HOp P ⟨d, .slice T x lo hi none, ty, pos, af, gd⟩ ov g [] (strV ((l.drop a.toNat).take (b.toNat - a.toNat))) [] := by
  have := hop_cut_str (P := P) (ov := ov) (g := g) (d := d) (ty := ty) (pos := pos) (af := af) (gd := gd) hT h1 hl (by rw [ba_size]; exact hh) h0 hlh (by rw [ba_size]; exact hn)
  rwa [ba_cut] at this
theorem hop_seq_l (h1 : ovl ov x = some (strV l)) (h2 : ovl ov y = some (strV m)) : HOp P ⟨d, .binOp .eql T x y yT, ty, pos, af, gd⟩ ov g [] (.imm (.bool (decide (l = m)))) [] := by
  have := hop_seq_ (P := P) (T := T) (yT := yT) (g := g) (d := d) (ty := ty) (pos := pos) (af := af) (gd := gd) h1 h2
  rw [ba_list, ba_list] at this
  have e : (l == m) = decide (l = m) := by rw [Bool.eq_iff_iff]; simp
  rwa [e] at this
theorem hop_sne_l (h1 : ovl ov x = some (strV l)) (h2 : ovl ov y = some (strV m)) : HOp P ⟨d, .binOp .neq T x y yT, ty, pos, af, gd⟩ ov g [] (.imm (.bool (!(decide (l = m))))) [] := by
  have := hop_sne (P := P) (T := T) (yT := yT) (g := g) (d := d) (ty := ty) (pos := pos) (af := af) (gd := gd) h1 h2
  rw [ba_list, ba_list] at this
  have e : (l == m) = decide (l = m) := by rw [Bool.eq_iff_iff]; simp
  rwa [e] at this
theorem hop_catl (h1 : ovl ov x = some (strV l)) (h2 : ovl ov y = some (strV m)) (hl : l.length + m.length ≤ 9223372036854775807) : HOp P ⟨d, .binOp .add T x y yT, ty, pos, af, gd⟩ ov g [] (strV (l ++ m)) [] := by
  rw [show strV (l ++ m) = .imm (.string (⟨l.toArray⟩ ++ ⟨m.toArray⟩)) from by rw [ba_app]]
  refine hop_bin .add _ _ _ h1 h2 (fun w => ?_)
  have h : ¬ ((((⟨l.toArray⟩ : ByteArray).size + (⟨m.toArray⟩ : ByteArray).size : Nat)) : Int) > IntKind.i64.max := by
    rw [ba_size, ba_size]
    show ¬ _ > (9223372036854775807 : Int)
    omega
  simp only [eqGuard, binOp, Op.stringOp, Sem.run_bind, Sem.run_pure, Result.andThen_ok]
  rw [if_neg h]
  rfl
end
section
variable {P : Program} {ov : Nat → Option HV} {g : Nat} {d : Option Tmp} {ty T yT : TypeId} {pos : String} {af : Array Edge} {gd : Option (Nat × Bool)} {x y : Operand} {k k' : IntKind} {a b : Int}
end
theorem HOp.val {P : Program} {o : Oper} {ov : Nat → Option HV} {g : Nat} {pre post : List (Nat × HObj)} {v v' : HV} (h : HOp P o ov g pre v post) (e : v = v') : HOp P o ov g pre v' post := e ▸ h
def WOk (k : IntKind) (lo hi : Int) : Prop := ∀ c, lo ≤ c → c ≤ hi → k.wrap c = c
theorem wok_u8 : WOk .u8 0 255 := fun c h1 h2 => by rw [IntKind.wrap_u8]; omega
theorem wok_i64 : WOk .i64 (-9223372036854775808) 9223372036854775807 := fun c h1 h2 => by rw [IntKind.wrap_i64]; omega
section
variable {P : Program} {ov : Nat → Option HV} {g : Nat} {d : Option Tmp} {ty T yT : TypeId} {pos : String} {af : Array Edge} {gd : Option (Nat × Bool)} {x y : Operand} {k k' : IntKind} {a b lo hi c : Int}
theorem hop_subk (w : WOk k lo hi) (h1 : ovl ov x = some (.imm (.int k a))) (h2 : ovl ov y = some (.imm (.int k b))) (hc : c = a - b) (hl : lo ≤ c) (hh : c ≤ hi) : HOp P ⟨d, .binOp .sub T x y yT, ty, pos, af, gd⟩ ov g [] (.imm (.int k c)) [] := by
  have := hop_sub (P := P) (T := T) (yT := yT) (g := g) (d := d) (ty := ty) (pos := pos) (af := af) (gd := gd) h1 h2
  rwa [← hc, w c hl hh] at this
theorem hop_convk (w : WOk k' lo hi) (hT : P.underlying yT = some (.int k')) (hS : (P.underlying T).isSome = true) (h1 : ovl ov x = some (.imm (.int k a))) (hl : lo ≤ a) (hh : a ≤ hi) : HOp P ⟨d, .convert T yT x, ty, pos, af, gd⟩ ov g [] (.imm (.int k' a)) [] := by
  have := hop_conv (P := P) (g := g) (d := d) (ty := ty) (pos := pos) (af := af) (gd := gd) hT hS h1
  rwa [w a hl hh] at this
end
end Go.Proofs.YtmcchhmgchgaaaaDoor

namespace Go.Proofs.YtmcchhmgchgaaaaDoor
set_option linter.unusedSimpArgs false
set_option linter.unusedVariables false
open Go.RowKit

theorem HFun.mono {P : Program} {f : FuncId} {c : Nat} {args : List HV} {pre : List (Nat × HObj)} {Post Post' : HEnd → List (Nat × HObj) → Nat → Prop} (h : HFun P f c args pre Post) (hi : ∀ e kp c', Post e kp c' → Post' e kp c') : HFun P f c args pre Post' :=
  ⟨h.1, fun X vs ok hX hr hG => (h.2 X vs ok hX hr hG).mono (by rintro e w' ⟨x, kp, c', E', hP, rest⟩; exact ⟨x, kp, c', E', hi _ _ _ hP, rest⟩)⟩
theorem hupd_same {h : Nat → Option HObj} : ∀ {p : List (Nat × HObj)}, (∀ q ∈ p, h q.1 = some q.2) → hupd h p = h
  | [], _ => rfl
  | q :: p, hq => by
    show hset (hupd h p) q.1 q.2 = h
    rw [hupd_same (fun x hx => hq x (List.mem_cons_of_mem _ hx))]
    funext k
    unfold hset
    split
    · rename_i e; subst e; exact (hq q (List.mem_cons_self ..)).symm
    · rfl
theorem clocks_self (pre : List (Nat × HObj)) : Clocks pre pre := fun id o h => ⟨_, hget_mem h, rfl⟩
section
variable {P : Program} {ops : Array Oper} {ov : Nat → Option HV} {g : Nat} {d : Option Tmp} {ty : TypeId} {pos : String} {af : Array Edge} {gd : Option (Nat × Bool)}
theorem hop_funD {f : FuncId} {args : List Operand} {at_ : Array TypeId} {xs : List HV} {pre post : List (Nat × HObj)} {r : HV} (hc : HFunD P f xs pre r post) (hk : Clocks pre post) (hx : ovAll ov args xs) :
    HOp P ⟨d, .call ⟨.value (.func f), args.toArray, at_⟩, ty, pos, af, gd⟩ ov g pre r post := by
  intro K w0 F0 E hh a w Q N rr ht hG hBd hpre hN
  have hrep := hx.rep (w := w) (E := E) (ρ := a.eval) (fun x hv hx h => ht x hv (by simp [Op.operands, Call.operands]; exact .inr hx) h)
  unfold Oper.wp execOp
  have hargs : args.toArray.map a.eval = (args.map a.eval).toArray := by simp
  simp only [resolve, Act.eval, Deferred.ofValue, invoke, Sem.run_bind, Sem.run_pure, Result.andThen_ok, Array.empty_append, Array.append_empty]
  rw [run_callFunc (hc 0).1]
  simp only [Oper.upon]
  have h := hc.sem hk rr hpre (args.map a.eval) hrep hBd
  rw [← hargs] at h
  refine Calls.mono h ?_
  rintro e w' ⟨v, E', rfl, e', r', hg', hv⟩
  exact hN v w' E' e' r' (fun g' h => .inl (hg' g' h)) hv
/-- It looks at what it is handed, and leaves it. -/
theorem hop_funR {f : FuncId} {args : List Operand} {at_ : Array TypeId} {xs : List HV} {pre : List (Nat × HObj)} {r : HV} (hc : HFunD P f xs pre r pre) (hx : ovAll ov args xs) :
    HOp P ⟨d, .call ⟨.value (.func f), args.toArray, at_⟩, ty, pos, af, gd⟩ ov g pre r [] := by
  intro K w0 F0 E hh a w Q N rr ht hG hBd hpre hN
  have hrep := hx.rep (w := w) (E := E) (ρ := a.eval) (fun x hv hx h => ht x hv (by simp [Op.operands, Call.operands]; exact .inr hx) h)
  unfold Oper.wp execOp
  have hargs : args.toArray.map a.eval = (args.map a.eval).toArray := by simp
  simp only [resolve, Act.eval, Deferred.ofValue, invoke, Sem.run_bind, Sem.run_pure, Result.andThen_ok, Array.empty_append, Array.append_empty]
  rw [run_callFunc (hc 0).1]
  simp only [Oper.upon]
  have h := hc.sem (clocks_self pre) rr hpre (args.map a.eval) hrep hBd
  rw [← hargs] at h
  refine Calls.mono h ?_
  rintro e w' ⟨v, E', rfl, e', r', hg', hv⟩
  rw [hupd_same hpre] at r'
  exact hN v w' E' e' r' (fun g' h => .inl (hg' g' h)) hv
end

/-- An object told in weaker words. -/
theorem hsub_ob {C : Ctx} {n clk : Nat} {tm : List (Nat × TV)} {hp : List (Nat × HObj)} (id : Nat) (o' : HObj) {o : HObj} (h : hget hp id = some o) (hs : OSub o o') : HSub C ⟨n, tm, hp, clk⟩ ⟨n, tm, (id, o') :: hp, clk⟩ := by
  intro a w ⟨E, e0, r, hG, hsz, hdf, ht⟩
  refine ⟨E, e0, r.weak (fun k x hx => ?_), hG, hsz, hdf, ht⟩
  obtain ⟨o1, h1, h2⟩ := HpSub.cons h hs (HpSub.refl hp) k x hx
  exact ⟨o1, h1, h2⟩

section
variable {P : Program} {ops : Array Oper} {Q : Exit → Act → World → Prop} {C : Ctx} {n clk : Nat} {tm : List (Nat × TV)} {hp : List (Nat × HObj)} {rest : List Oper} {ty : TypeId} {pos : String} {af : Array Edge}
theorem hop_makeBound {ov : Nat → Option HV} {g : Nat} {d : Option Tmp} {gd : Option (Nat × Bool)} {f : FuncId} {x : Operand} {hv : HV} (hx : ovl ov x = some hv) : HOp P ⟨d, .makeFunc (.func f) #[x] #[], ty, pos, af, gd⟩ ov g [] (.bnd (.func f) hv) [] :=
  hop_pure fun w E ρ hr => ⟨.func (.func f) #[ρ x] #[], by simp [execOp, Instr.makeFunc], .bnd _ _ _ (hr x hv (by simp [Op.operands]) hx)⟩
theorem pview_rep {w : World} {E : Env} {a : Act} {args : List Operand} {xs : List HV} (ht : ∀ t x, tget tm t = some x → TVRep w E a (a.tmps.getD t undef) x) (hx : ovAll (pview (tget tm)) args xs) : RepAll w E (args.map a.eval) xs :=
  hx.rep (w := w) (E := E) (ρ := a.eval) (fun x hv hx' h => by
    cases x with
    | tmp t =>
      simp only [ovl, pview] at h
      cases hq : tget tm t with
      | none => rw [hq] at h; cases h
      | some u => rw [hq] at h; cases u with
        | v y => injection h with h; subst h; exact ht t _ hq
        | un j b y => cases h
    | const v => exact rep_cst w E _ v _ h
    | global k => injection h with h; subst h; exact .imm _
    | func f => injection h with h; subst h; exact .fn (.func f) #[] 0 _ (fun _ => undef) rfl (fun i hi => absurd hi (Nat.not_lt_zero _)) (fun i hi => absurd hi (Nat.not_lt_zero _)))
theorem hf_callB {f : FuncId} {t : Nat} {args : List Operand} {at_ : Array TypeId} {y : HV} {xs : List HV} {pre : List (Nat × HObj)} {Post : HEnd → List (Nat × HObj) → Nat → Prop} (d : Nat)
    (hc : HFun P f clk (y :: xs) pre Post) (h0 : tget tm t = some (.v (.bnd (.func f) y))) (hx : ovAll (pview (tget tm)) args xs) (hpre : ∀ p ∈ pre, hget hp p.1 = some p.2) (hlt : Nat.blt d n = true) (hk : nokey tm d = true)
    (h : ∀ r kp c', Post (.ret r) kp c' → HSeq C P ops rest ⟨n, (d, .v r) :: tm, kp ++ hp, c'⟩ Q) (hpan : ∀ x kp c', Post (.pan x) kp c' → HPan C Q ⟨n, tm, kp ++ hp, c'⟩ x) :
    HSeq C P ops (⟨some d, .call ⟨.value (.tmp t), args.toArray, at_⟩, ty, pos, af, none⟩ :: rest) ⟨n, tm, hp, clk⟩ Q := by
  intro a w ⟨E, e0, r, hG, hsz, hdf, ht⟩
  have hlt : d < n := by simpa [Nat.blt_eq] using hlt
  unfold wpSeq
  rw [if_pos (by simp [Region.wanted])]
  have hrep := pview_rep ht hx
  have hfn : Rep w E (a.eval (.tmp t)) (.bnd (.func f) y) := ht t _ h0
  unfold Oper.wp execOp
  generalize hρ : a.eval (.tmp t) = u at hfn
  cases hfn with
  | bnd _ v0 _ hv0 =>
    have hargs : #[v0] ++ args.toArray.map a.eval = (v0 :: args.map a.eval).toArray := by simp
    simp only [resolve, hρ, Deferred.ofValue, invoke, Sem.run_bind, Sem.run_pure, Result.andThen_ok, Array.empty_append, Array.append_empty]
    rw [run_callFunc hc.1]
    simp only [Oper.upon]
    have hcalls := hc.2 ⟨C.K, C.w0, C.E0.F, E, hget hp, w, pre⟩ (v0 :: args.map a.eval) ⟨r, fun id o ho => hpre (id, o) (hget_mem ho)⟩ rfl ⟨hv0, hrep⟩ hG
    rw [← hargs] at hcalls
    refine Calls.mono hcalls ?_
    rintro e w' ⟨x, kp, c', E', hP, e', r', hG', _, hv⟩
    cases e with
    | returned v =>
      cases x with
      | pan x => exact hv.elim
      | ret x =>
        refine h x kp c' hP _ w' ⟨E', e0.trans e', by simp only [hget_append]; exact r', hG', by simp [Act.put, hsz], hdf.ext e', fun t y hy => ?_⟩
        simp only [tget_cons] at hy
        split at hy
        · rename_i htd
          subst htd
          injection hy with hy
          subst hy
          rw [getD_put_same (by rw [hsz]; exact hlt)]
          exact hv
        · rename_i htd
          rw [getD_put_ne htd]
          have := (ht t y hy).ext e'
          cases y with
          | v z => exact this
          | un j b z =>
            have hne := nokey_spec hk t j b z hy
            simp only [TVRep, getD_put_ne hne] at this ⊢; exact this
    | panicked ch =>
      cases x with
      | ret x => exact hv.elim
      | pan x =>
        obtain ⟨v, rfl, hv⟩ := hv
        exact hpan x kp c' hP a w' E' v (e0.trans e') (by simp only [hget_append]; exact r') hG' hsz (hdf.ext e') (fun t y hy => (ht t y hy).ext e') hv
    | outgrown => cases x <;> exact hv.elim
theorem hf_callBRP {α β : Type} {I : α → Nat → Prop} {r : α → HV} {kpf : α → List (Nat × HObj)} {J : β → Nat → Prop} {q : β → HV} {kqf : β → List (Nat × HObj)} {f : FuncId} {t : Nat} {args : List Operand} {at_ : Array TypeId} {y : HV} {xs : List HV} {pre : List (Nat × HObj)} (d : Nat)
    (hc : HFun P f clk (y :: xs) pre (RoP I r kpf J q kqf)) (h0 : tget tm t = some (.v (.bnd (.func f) y))) (hx : ovAll (pview (tget tm)) args xs) (hpre : ∀ p ∈ pre, hget hp p.1 = some p.2) (hlt : Nat.blt d n = true) (hk : nokey tm d = true)
    (hpan : ∀ y c', J y c' → HPan C Q ⟨n, tm, kqf y ++ hp, c'⟩ (q y))
    (h : ∀ x c', I x c' → HSeq C P ops rest ⟨n, (d, .v (r x)) :: tm, kpf x ++ hp, c'⟩ Q) :
    HSeq C P ops (⟨some d, .call ⟨.value (.tmp t), args.toArray, at_⟩, ty, pos, af, none⟩ :: rest) ⟨n, tm, hp, clk⟩ Q :=
  hf_callB d hc h0 hx hpre hlt hk (fun _ _ c' hP => by
    rcases hP with ⟨x, hI, he, hk⟩ | ⟨_, _, he, _⟩
    · injection he with he; subst he; subst hk; exact h x c' hI
    · cases he) (fun _ _ c' hP => by
    rcases hP with ⟨_, _, he, _⟩ | ⟨y, hJ, he, hk⟩
    · cases he
    · injection he with he; subst he; subst hk; exact hpan y c' hJ)
theorem tk_nil {tm0 : List (Nat × TV)} : ∀ t x, tget [] t = some x → tget tm0 t = some x := fun t x h => by cases h
theorem tk_cons {tm0 r : List (Nat × TV)} {k : Nat} {y : TV} (h : tget tm0 k = some y) (hr : ∀ t x, tget r t = some x → tget tm0 t = some x) : ∀ t x, tget ((k, y) :: r) t = some x → tget tm0 t = some x := fun t x hx => by
  rw [tget_cons] at hx
  split at hx
  · rename_i e; subst e; injection hx with hx; subst hx; exact h
  · exact hr t x hx
theorem hpan_then {N : Act → World → Prop} {s : HSt} {x : HV} (h : HPan C Q s x) : HPan C (Exit.then N Q) s x := h
theorem hpan_block {id : Nat} {s : HSt} {x : HV} (h : HPan C Q s x) : HPan C (Exit.inBlock id Q) s x := h
@[reducible] def PanP {β : Type} (J : β → Nat → Prop) (q : β → HV) (kq : β → List (Nat × HObj)) : HEnd → List (Nat × HObj) → Nat → Prop := fun e o c' => ∃ y, J y c' ∧ e = .pan (q y) ∧ o = kq y
/-- A call that never returns. -/
theorem hf_callP {β : Type} {J : β → Nat → Prop} {q : β → HV} {kqf : β → List (Nat × HObj)} {d : Option Nat} {f : FuncId} {args : List Operand} {at_ : Array TypeId} {xs : List HV} {pre : List (Nat × HObj)}
    (hc : HFun P f clk xs pre (PanP J q kqf)) (hx : ovAll (pview (tget tm)) args xs) (hpre : ∀ p ∈ pre, hget hp p.1 = some p.2) (hpan : ∀ y c', J y c' → HPan C Q ⟨n, tm, kqf y ++ hp, c'⟩ (q y)) :
    HSeq C P ops (⟨d, .call ⟨.value (.func f), args.toArray, at_⟩, ty, pos, af, none⟩ :: rest) ⟨n, tm, hp, clk⟩ Q := by
  intro a w ⟨E, e0, r, hG, hsz, hdf, ht⟩
  unfold wpSeq
  rw [if_pos (by simp [Region.wanted])]
  have hrep := pview_rep ht hx
  unfold Oper.wp execOp
  have hargs : args.toArray.map a.eval = (args.map a.eval).toArray := by simp
  simp only [resolve, Act.eval, Deferred.ofValue, invoke, Sem.run_bind, Sem.run_pure, Result.andThen_ok, Array.empty_append, Array.append_empty]
  rw [run_callFunc hc.1]
  simp only [Oper.upon]
  have hcalls := hc.2 ⟨C.K, C.w0, C.E0.F, E, hget hp, w, pre⟩ (args.map a.eval) ⟨r, fun id o ho => hpre (id, o) (hget_mem ho)⟩ rfl hrep hG
  rw [← hargs] at hcalls
  refine Calls.mono hcalls ?_
  rintro e w' ⟨x, kp, c', E', ⟨y, hJ, rfl, rfl⟩, e', r', hG', _, hv⟩
  cases e with
  | returned v => exact hv.elim
  | panicked ch =>
    obtain ⟨v, rfl, hv⟩ := hv
    exact hpan y c' hJ a w' E' v (e0.trans e') (by simp only [hget_append]; exact r') hG' hsz (hdf.ext e') (fun t y hy => (ht t y hy).ext e') hv
  | outgrown => exact hv.elim
theorem hf_panP {β : Type} {J : β → Nat → Prop} {q : β → HV} {kqf : β → List (Nat × HObj)} {X : Clr} (ok : X.Ok) {pre : List (Nat × HObj)} (hX : X.pre = pre) {fn : Func} {s : HSt} {v : HV} (y : β) (hJ : J y s.clk) (hpk : (pre.all fun p => (hget (kqf y) p.1).isSome) = true) (hz : Kz (kqf y) [] v (q y)) (hkp : Kept (kqf y) [] s.hp (kqf y)) :
    HPan X.ctx (bodyPost P fn (FunPost X (PanP J q kqf))) s v :=
  hf_pan ok (kqf y) (by rw [hX]; exact hpk) hkp hz ⟨y, hJ, rfl, rfl⟩
theorem HFun.pan {β : Type} {J : β → Nat → Prop} {q : β → HV} {kqf : β → List (Nat × HObj)} {f : FuncId} {c : Nat} {args : List HV} {pre : List (Nat × HObj)} {α : Type} {I : α → Nat → Prop} {r : α → HV} {kpf : α → List (Nat × HObj)} (h : HFun P f c args pre (PanP J q kqf)) : HFun P f c args pre (RoP I r kpf J q kqf) :=
  h.mono fun _ _ _ ⟨y, h1, h2, h3⟩ => .inr ⟨y, h1, h2, h3⟩
theorem hseq_panic {x : Operand} {t : TypeId} {y : HV} (hx : ovl (pview (tget tm)) x = some (.ifc t y)) (h : HPan C Q ⟨n, tm, hp, clk⟩ (.ifc t y)) : HSeq C P ops (⟨none, .panic x, ty, pos, af, none⟩ :: rest) ⟨n, tm, hp, clk⟩ Q := by
  intro a w ⟨E, e0, r, hG, hsz, hdf, ht⟩
  unfold wpSeq
  rw [if_pos (by simp [Region.wanted])]
  have hv : Rep w E (a.eval x) (.ifc t y) := (pview_rep (args := [x]) (xs := [.ifc t y]) ht ⟨hx, trivial⟩).1
  unfold Oper.wp execOp
  generalize hρ : a.eval x = u at hv
  cases hv with
  | ifc _ v _ hv =>
    simp only [Sem.run_bind, run_panic_iface, hρ]
    exact h a w E _ e0 r hG hsz hdf ht (.ifc _ _ _ hv)
end

theorem hrun_nil {ss : List HSpec} {h0 : Nat → Option HObj} {S : Nat → Bool} : ∀ m, (∀ k, k < m → (spAt ss k).post = []) → hrun ss h0 S m = h0
  | 0, _ => rfl
  | m + 1, h => by
    have ih := hrun_nil (ss := ss) (h0 := h0) (S := S) m (fun k hk => h k (by omega))
    simp only [hrun, h m (by omega), ih, hupd, List.foldr]
    split <;> rfl
theorem trun_miss {l : List Oper} {ss : List HSpec} {t0 : Nat → Option TV} {S : Nat → Bool} {t : Nat} : ∀ m, (∀ k, k < m → dstAt l k ≠ some t) → trun l ss t0 S m t = t0 t
  | 0, _ => rfl
  | m + 1, h => by
    simp only [trun]
    rw [if_neg (fun hh => h m (by omega) hh.2)]
    exact trun_miss m (fun k hk => h k (by omega))
def chkDep (l : List Oper) (k : Nat) : Bool := (List.range l.length).all fun i => Nat.ble i k || ((mkBef l []).getD i []).any (Nat.beq k)
def chkKeep (l : List Oper) (tk : List (Nat × TV)) : Bool := tk.all fun p => l.all fun o => match o.dst with | some d => !Nat.beq d p.1 | none => true
theorem chkKeep_spec {l : List Oper} {tk : List (Nat × TV)} (h : chkKeep l tk = true) {t : Nat} {x : TV} (ht : tget tk t = some x) : ∀ k, dstAt l k ≠ some t := by
  intro k hk
  have hm : ∃ p ∈ tk, p.1 = t := by
    clear h
    induction tk with
    | nil => cases ht
    | cons q r ih =>
      obtain ⟨k', y⟩ := q
      rw [tget_cons] at ht
      split at ht
      · rename_i e; exact ⟨_, List.mem_cons_self .., e.symm⟩
      · obtain ⟨p, h1, h2⟩ := ih ht; exact ⟨p, List.mem_cons_of_mem _ h1, h2⟩
  obtain ⟨p, hp, rfl⟩ := hm
  have h1 := List.all_eq_true.1 (List.all_eq_true.1 h p hp)
  unfold dstAt at hk
  cases hl : l[k]? with
  | none => rw [hl] at hk; cases hk
  | some o =>
    rw [hl] at hk
    have := h1 o (List.mem_of_getElem? hl)
    simp only [Option.bind_some] at hk
    rw [hk] at this
    simp at this
section
variable {C : Ctx} {P : Program} {Q : Exit → Act → World → Prop} {n clk : Nat} {tm0 : List (Nat × TV)} {hp0 : List (Nat × HObj)} {l : List Oper} {ss : List HSpec}
theorem Inv.anyP {bef : List (List Nat)} (hc : Chk l ss bef) (hV : allV tm0 = true) (kb : Nat) (hkb : kb < l.length) (hg : ∀ i, i < kb → ∀ o, l[i]? = some o → Good P l.toArray n clk tm0 hp0 l ss i o) (hdep : ∀ i, i < l.length → kb < i → kb ∈ bef.getD i [])
    (hbad : ∀ listed a w N, Inv C n clk tm0 hp0 l ss listed a w → kb ∈ Region.ready .any l.toArray listed → wpOp P l.toArray Q kb N a w) :
    ∀ (fuel : Nat) (listed : Array Bool) (a : Act) (w : World), listed.toList.count false ≤ fuel → Inv C n clk tm0 hp0 l ss listed a w → (∀ i, kb ≤ i → listed.getD i false = false) → wpAny P .any l.toArray Q fuel listed a w := by
  have some_ : ∀ (listed : Array Bool) (a : Act) (w : World), Inv C n clk tm0 hp0 l ss listed a w → (∀ i, kb ≤ i → listed.getD i false = false) → Region.ready .any l.toArray listed ≠ [] := by
    intro listed a w hI hfree hr
    have full : ∀ k, k < l.length → listed.getD k false = true := by
      intro k
      induction k using Nat.strongRecOn with
      | _ k ih =>
        intro hk
        have hko : l[k]? = some l[k] := List.getElem?_eq_getElem hk
        rw [← Bool.not_eq_false]
        intro hkf
        have : k ∈ Region.ready .any l.toArray listed := by
          refine mem_ready.2 ⟨?_, l[k], by simp, fun e he hb => ?_⟩
          · have hkl : k < listed.size := by rw [hI.sz]; exact hk
            simpa [hkl] using hkf
          · have hee : e.on ∈ edg l[k] := List.mem_map.2 ⟨e, List.mem_filter.2 ⟨by simpa using he, hb⟩, rfl⟩
            exact ih e.on (hc.edge k _ hko _ hee) (by have := hc.edge k _ hko _ hee; omega)
        rw [hr] at this; cases this
    have h1 := full kb hkb
    rw [hfree kb (Nat.le_refl _)] at h1; cases h1
  intro fuel
  induction fuel with
  | zero =>
    intro listed a w hcnt hI hfree
    have hkl : kb < listed.size := by rw [hI.sz]; exact hkb
    have h1 := hfree kb (Nat.le_refl _)
    have h2 : listed[kb] = false := by simpa [hkl] using h1
    have hmem : false ∈ listed.toList := by rw [← h2]; simp
    have := List.count_pos_iff.2 hmem
    omega
  | succ fuel ih =>
    intro listed a w hcnt hI hfree
    refine ⟨fun hr => absurd hr (some_ listed a w hI hfree), fun i hr => ?_⟩
    have hr' := hr
    obtain ⟨_, o, ho, _⟩ := mem_ready.1 hr
    have ho : l[i]? = some o := by rw [← ho]; simp
    obtain ⟨h1, h2, hedg⟩ := edg_ready hr ho hI.sz
    rcases Nat.lt_trichotomy i kb with hik | hik | hik
    · refine hI.step hc hV (hg i hik) hr (fun a' w' hI' => ih _ a' w' ?_ hI' (fun j hj => ?_))
      · have hil : i < listed.toList.length := by rw [Array.length_toList, hI.sz]; exact h2
        have hli : listed.toList[i] = false := by
          have hkl : i < listed.size := by rw [hI.sz]; exact h2
          simpa [hkl] using h1
        have hpos : 0 < listed.toList.count false := List.count_pos_iff.2 (by rw [← hli]; exact List.getElem_mem hil)
        rw [Array.toList_setIfInBounds, List.count_set hil, hli]
        have e1 : (false == false) = true := rfl
        have e2 : (true == false) = false := rfl
        rw [e1, e2]
        simp only [if_true, Bool.false_eq_true, if_false]
        omega
      · rw [getD_set _ _ _ (by rw [hI.sz]; exact h2), if_neg (by omega)]
        exact hfree j hj
    · subst hik
      exact hbad listed a w _ hI hr
    · have h3 : listed.getD kb false = true := bef_closed hc (S := fun k => listed.getD k false) hI.closed i o ho hedg kb (hdep i h2 hik)
      rw [hfree kb (Nat.le_refl _)] at h3; cases h3
theorem Good.wide {ops : Array Oper} {dn L : List Oper} {ss ss' : List HSpec} {i : Nat} {o : Oper} (hd : ∀ k, k < i → dstAt dn k = dstAt L k) (hs : ∀ k, k ≤ i → spAt ss k = spAt ss' k) (h : Good P ops n clk tm0 hp0 dn ss i o) : Good P ops n clk tm0 hp0 L ss' i o := by
  refine ⟨?_, ?_, h.dst⟩
  · have e : trun L ss' (tget tm0) (fun _ => true) i = trun dn ss (tget tm0) (fun _ => true) i := funext fun t => (trun_congr i (fun k hk => (hd k hk)) (fun k hk _ => ⟨rfl, hs k (by omega)⟩)).symm
    rw [← hs i (Nat.le_refl _), e]; exact h.st
  · rw [← hs i (Nat.le_refl _)]
    intro p hp
    rw [← hrun_congr (ss := ss) i (fun k hk => by rw [hs k (by omega)]) (fun k hk _ => rfl)]; exact h.pre p hp
theorem hd_pan {id : Nat} {dn rest : List Oper} {k : Nat} {tm : List (Nat × TV)} {d : Option Tmp} {ty : TypeId} {pos : String} {af : Array Edge} {f : FuncId} {args : List Operand} {at_ : Array TypeId} {xs : List HV} {pre : List (Nat × HObj)} {Post : HEnd → List (Nat × HObj) → Nat → Prop} {L : List Oper} {cc : Nat} (tk : List (Nat × TV))
    (hm : P.follows .mixedOrders = true) (hcc : clk + L.length = cc) (hc : HFun P f cc xs pre Post) (hx : ovAll (pview (tget tm)) args xs) (hpre : ∀ p ∈ pre, hget hp0 p.1 = some p.2)
    (hck : chkR L (ss ++ [⟨.v default, args.filterMap (fun | .tmp t => some t | _ => none), pre, []⟩]) tm0 = true) (hdep : chkDep L k = true) (hpost : (ss.all fun s => s.post.isEmpty) = true)
    (htk : ∀ t x, tget tk t = some x → tget tm0 t = some x) (hkeep : chkKeep L tk = true)
    (hret : ∀ r kp c', ¬ Post (.ret r) kp c') (hpan : ∀ x kp c', Post (.pan x) kp c' → HPan C Q ⟨n, tk, kp ++ hp0, c'⟩ x) :
    HDr P n clk tm0 hp0 L dn ss (⟨d, .call ⟨.value (.func f), args.toArray, at_⟩, ty, pos, af, none⟩ :: rest) k tm hp0 (HWp C P (.region id L.toArray true) ⟨n, tm0, hp0, clk⟩ Q) := by
  subst hcc
  intro hL hk hv a w hs
  subst hk
  obtain ⟨hV, hchk⟩ := chk_of hck
  obtain ⟨g1, g2, g3, g4⟩ := hv.good
  have hlen : dn.length < L.length := by rw [← hL]; simp
  have hdst : ∀ i, i < dn.length → dstAt dn i = dstAt L i := fun i hi => by unfold dstAt; rw [← hL, List.getElem?_append_left hi]
  have hsp : ∀ i, i < dn.length → spAt ss i = spAt (ss ++ [⟨.v default, args.filterMap (fun | .tmp t => some t | _ => none), pre, []⟩]) i := fun i hi => by
    unfold spAt; rw [List.getD_eq_getElem?_getD, List.getD_eq_getElem?_getD, List.getElem?_append_left (by omega)]
  have hspk : spAt (ss ++ [⟨.v default, args.filterMap (fun | .tmp t => some t | _ => none), pre, []⟩]) dn.length = ⟨.v default, args.filterMap (fun | .tmp t => some t | _ => none), pre, []⟩ := by
    unfold spAt; rw [List.getD_eq_getElem?_getD, g1, List.getElem?_append_right (Nat.le_refl _)]; simp
  have hposts : ∀ i, (spAt (ss ++ [⟨.v default, args.filterMap (fun | .tmp t => some t | _ => none), pre, []⟩]) i).post = [] := by
    intro i
    rcases Nat.lt_trichotomy i dn.length with h | h | h
    · rw [← hsp i h]
      unfold spAt
      have hi : i < ss.length := by omega
      rw [List.getD_eq_getElem?_getD, List.getElem?_eq_getElem hi]
      have := List.all_eq_true.1 hpost _ (List.getElem_mem hi)
      simpa using this
    · subst h; rw [hspk]
    · unfold spAt
      rw [List.getD_eq_getElem?_getD, List.getElem?_eq_none (by simp; omega)]; rfl
  have hok : L[dn.length]? = some ⟨d, .call ⟨.value (.func f), args.toArray, at_⟩, ty, pos, af, none⟩ := by rw [← hL]; simp
  obtain ⟨E, e0, r, hG, hsz, hdf, ht⟩ := hs
  have hf : ∀ k, (Array.replicate L.length false).getD k false = false := by
    intro k; by_cases hk : k < L.length <;> simp [hk]
  have start : Inv C n clk tm0 hp0 L (ss ++ [⟨.v default, args.filterMap (fun | .tmp t => some t | _ => none), pre, []⟩]) (Array.replicate L.length false) a w.drew := by
    have hfun : (fun k => (Array.replicate L.length false).getD k false) = fun _ => false := funext hf
    have hzt : ∀ m t, trun L (ss ++ [⟨.v default, args.filterMap (fun | .tmp t => some t | _ => none), pre, []⟩]) (tget tm0) (fun _ => false) m t = tget tm0 t := by
      intro m t
      induction m with
      | zero => rfl
      | succ m ih => simp only [trun, Bool.false_eq_true, false_and, if_false]; exact ih
    refine ⟨by simp, (fun i o _ h => by rw [hf] at h; cases h), E, e0.trans (r.extBelow (Below.refl _ _).drew), (by rw [hrun_nil _ (fun k _ => hposts k)]; exact r.drew), fun g hg => .inl (hG g hg), hsz, hdf.ext (r.extBelow (Below.refl _ _).drew), fun t x hx => ?_⟩
    rw [hfun] at hx
    rw [hzt] at hx
    exact (ht t x hx).ext (r.extBelow (Below.refl _ _).drew)
  refine wp_region_any hm ?_
  have := Inv.anyP (C := C) (P := P) (Q := Q) hchk hV dn.length hlen (fun i hi o ho => by
      have ho' : dn[i]? = some o := by rw [← hL, List.getElem?_append_left hi] at ho; exact ho
      exact (g4 i o ho').wide (fun k hk => hdst k (by omega)) (fun k hk => hsp k (by omega))) (fun i hi hki => by
      have h1 := List.all_eq_true.1 hdep i (List.mem_range.2 hi)
      rw [Bool.or_eq_true, any_beq, Nat.ble_eq] at h1
      exact h1.resolve_left (by omega)) (fun listed a' w' N hI hr => ?_) L.toArray.size (Array.replicate L.length false) a w.drew (by simp) start (fun i _ => hf i)
  · simpa using this
  · obtain ⟨E', e0', r', hG', hsz', hdf', htm', hneed, hpr⟩ := hI.look hchk hr hok (by
      rw [hspk]
      intro p hp
      rw [hrun_nil _ (fun k _ => hposts k)]; exact hpre p hp)
    rw [hrun_nil _ (fun k _ => hposts k)] at r'
    have hfull : trun L (ss ++ [⟨.v default, args.filterMap (fun | .tmp t => some t | _ => none), pre, []⟩]) (tget tm0) (fun _ => true) dn.length = tget tm := by
      rw [g2]; funext t; exact (trun_congr dn.length (fun k hk => hdst k hk) (fun k hk _ => ⟨rfl, hsp k hk⟩)).symm
    rw [hspk, hfull] at hneed
    have hrep : RepAll w' E' (args.map a'.eval) xs := hx.rep (w := w') (E := E') (ρ := a'.eval) (fun x hv hx' h => by
      cases x with
      | tmp t =>
        simp only [ovl, pview] at h
        cases hq : tget tm t with
        | none => rw [hq] at h; cases h
        | some u => rw [hq] at h; cases u with
          | v y => injection h with h; subst h; exact hneed t _ (List.mem_filterMap.2 ⟨_, hx', rfl⟩) hq
          | un j b y => cases h
      | const v => exact rep_cst w' E' _ v _ h
      | global k => injection h with h; subst h; exact .imm _
      | func f => injection h with h; subst h; exact .fn (.func f) #[] 0 _ (fun _ => undef) rfl (fun i hi => absurd hi (Nat.not_lt_zero _)) (fun i hi => absurd hi (Nat.not_lt_zero _)))
    unfold wpOp
    have hoa : L.toArray[dn.length]? = some ⟨d, .call ⟨.value (.func f), args.toArray, at_⟩, ty, pos, af, none⟩ := by rw [← hok]; simp
    simp only [hoa]
    rw [if_pos (by simp [Region.wanted])]
    left
    unfold Oper.wp execOp
    have hargs : args.toArray.map a'.eval = (args.map a'.eval).toArray := by simp
    simp only [resolve, Act.eval, Deferred.ofValue, invoke, Sem.run_bind, Sem.run_pure, Result.andThen_ok, Array.empty_append, Array.append_empty]
    rw [run_callFunc hc.1]
    simp only [Oper.upon]
    have hcalls := hc.2 ⟨C.K, C.w0, C.E0.F, E', hget hp0, w', pre⟩ (args.map a'.eval) ⟨r', fun id o ho => hpre (id, o) (hget_mem ho)⟩ rfl hrep (fun g hg => by
      rcases hG' g hg with h | ⟨k, h1, _, h3⟩ <;> omega)
    rw [← hargs] at hcalls
    refine Calls.mono hcalls ?_
    rintro e w2 ⟨x, kp, c', E2, hP, e2, r2, hG2, _, hv2⟩
    cases e with
    | returned v =>
      cases x with
      | pan x => exact hv2.elim
      | ret x => exact absurd hP (hret x kp c')
    | panicked ch =>
      cases x with
      | ret x => exact hv2.elim
      | pan x =>
        obtain ⟨v, rfl, hv2⟩ := hv2
        refine hpan x kp c' hP a' w2 E2 v (e0'.trans e2) (by simp only [hget_append]; exact r2) hG2 hsz' (hdf'.ext e2) (fun t y hy => ?_) hv2
        refine (htm' t y ?_).ext e2
        rw [trun_miss _ (fun k _ => chkKeep_spec hkeep hy k)]
        exact htk t y hy
    | outgrown => cases x <;> exact hv2.elim
end

section
variable {P : Program} {ops : Array Oper} {Q : Exit → Act → World → Prop} {C : Ctx} {n clk : Nat} {tm : List (Nat × TV)} {hp : List (Nat × HObj)} {ty : TypeId} {pos : String} {af : Array Edge}
def Ctx.wait (C : Ctx) (x : HV) : Ctx := ⟨C.K, C.w0, C.E0, x :: C.ds⟩
theorem hseq_defer {t : Nat} {f : FuncId} {m : Nat} {caps : Nat → HV} {at_ : Array TypeId} (h0 : tget tm t = some (.v (.fn (.func f) m caps))) (h : HQ (C.wait (.fn (.func f) m caps)) Q .normal ⟨n, tm, hp, clk⟩) :
    HSeq C P ops [⟨none, .defer ⟨.value (.tmp t), #[], at_⟩, ty, pos, af, none⟩] ⟨n, tm, hp, clk⟩ Q := by
  intro a w ⟨E, e0, r, hG, hsz, hdf, ht⟩
  unfold wpSeq
  rw [if_pos (by simp [Region.wanted])]
  have hfn : Rep w E (a.eval (.tmp t)) (.fn (.func f) m caps) := ht t _ h0
  unfold Oper.wp execOp
  generalize hρ : a.eval (.tmp t) = u at hfn
  cases hfn with
  | fn _ vcs _ _ vs hn hv hr =>
    simp only [resolve, hρ, Deferred.ofValue, Sem.run_bind, Sem.run_pure, Result.andThen_ok, Array.map_empty, Array.append_empty, Oper.upon, wpSeq]
    exact h _ w ⟨E, e0, r, hG, hsz, ⟨_, _, _, rfl, .fn _ _ _ _ vs hn hv hr, hdf⟩, ht⟩
/-- What a waiting closure does: in mode u, which it leaves as u'. -/
def HDef (P : Program) (f : FuncId) (u u' : Value → FrameMode) (c : Nat) (args : List HV) (y : HV) (pre : List (Nat × HObj)) (Post : HEnd → List (Nat × HObj) → Nat → Prop) : Prop := FnOk P f ∧
  ∀ (X : Clr) (vs : List Value) (v : Value), X.Ok → X.pre = pre → RepAll X.w X.E vs args → Rep X.w X.E v y → (∀ g, X.E.G g → g < c) → CallsD P f vs.toArray (u v) X.w fun e u2 w' => u2 = u' v ∧ FunPost X Post e w'
@[reducible] def modeR : Value → FrameMode := fun _ => .returning
@[reducible] def modeP : Value → FrameMode := fun v => .panicking [{ v := v, recovered := false }]
@[reducible] def modeP' : Value → FrameMode := fun v => .panicking [{ v := v, recovered := true }]
theorem hdef_of {f : FuncId} {fn : Func} {id d1 d2 : Nat} {at_ : Array TypeId} {ty1 ty2 : TypeId} {pos1 pos2 : String} {af1 af2 : Array Edge} {rest : Code} (u u' : Value → FrameMode) (y : HV)
    (hu : ∀ (v : Value) (c₀ : Frame) (cs : List Frame), c₀.mode = u v → (recoverD (c₀ :: cs) = some (v, { c₀ with mode := u' v } :: cs)) ∨ (recoverD (c₀ :: cs) = none ∧ u' v = u v ∧ y = .imm .nilIface))
    (hf : P.funcs[f]? = some fn) (hb : fn.body = some (.seq (.region id #[⟨some d1, .call ⟨.builtin .recover, #[], at_⟩, ty1, pos1, af1, none⟩, ⟨some d2, .assign (.tmp d1), ty2, pos2, af2, none⟩] false) rest)) (hn : (fn.name == "runtime.NumGoroutine") = false)
    (args : List HV) (pre : List (Nat × HObj)) (tm : List (Nat × TV)) (htm : slots 0 args = tm) (n : Nat) (hnt : fn.ntmps = n) (hlen : Nat.ble args.length n = true) (h1n : Nat.blt d1 n = true) (h2n : Nat.blt d2 n = true) (hk1 : nokey tm d1 = true) (hk2 : nokey tm d2 = true) (hd12 : d1 ≠ d2) {Post : HEnd → List (Nat × HObj) → Nat → Prop}
    (h : ∀ X : Clr, X.Ok → X.pre = pre → HWp X.ctx P rest ⟨n, (d2, .v y) :: (d1, .v y) :: tm, pre, clk⟩ (bodyPost P fn (FunPost X Post))) : HDef P f u u' clk args y pre Post := by
  refine ⟨⟨fn, _, hf, hb, hn⟩, fun X vs v ok hX hr hvy hG => ?_⟩
  refine callsD_of_wpS hf hb fun c₀ cs hm => wpS_seq (wpS_region ?_)
  have h1n : d1 < n := by simpa [Nat.blt_eq] using h1n
  have h2n : d2 < n := by simpa [Nat.blt_eq] using h2n
  obtain ⟨hl, hg⟩ := hr.get
  have hlen : args.length ≤ n := by simpa using hlen
  generalize hA : ({ tmps := vs.toArray ++ Array.replicate (fn.ntmps - vs.toArray.size) undef, defers := [] } : Act) = a
  have hasz : a.tmps.size = n := by subst hA; simp [hl, hnt]; omega
  have hadf : a.defers = [] := by subst hA; rfl
  have hslots : ∀ t x, tget tm t = some x → TVRep X.w X.E a (a.tmps.getD t undef) x := by
    intro t x hx
    rw [← htm] at hx
    obtain ⟨i, y, rfl, h2, rfl⟩ := tget_slots args 0 t x hx
    obtain ⟨v, hv, hrep⟩ := hg i y h2
    have hi : i < vs.length := by
      rcases Nat.lt_or_ge i vs.length with h | h
      · exact h
      · rw [List.getElem?_eq_none h] at hv; cases hv
    have : a.tmps.getD (0 + i) undef = v := by
      subst hA
      rw [Nat.zero_add]
      simp only [Array.getD_eq_getD_getElem?]
      rw [Array.getElem?_append_left (by simpa using hi)]
      simp [hv]
    rw [this]
    exact hrep
  have key : ∀ (v' : Value) (c₁ : Frame), Rep X.w X.E v' y → c₁ = { c₀ with mode := u' v } → rest.wpS P (bodyPostS P fn c₀ cs fun e u2 w' => u2 = u' v ∧ FunPost X Post e w') ((a.put (some d1) v').put (some d2) v') (c₁ :: cs) X.w := by
    intro v' c₁ hv' hc₁
    refine wpS_of_wp (Code.wp_mono (fun e a' w' hq => ?_) (h X ok hX _ X.w ⟨X.E, Ext.refl _ _, by have := ok.start; rw [hX] at this; exact this, hG, by simp [Act.put, hasz], hadf, fun t x hx => ?_⟩))
    · cases e with
      | normal => obtain ⟨q1, q2, q3, q4⟩ := hq; exact ⟨q1, _, by rw [hc₁], q2, q3, rfl, q4⟩
      | ret => obtain ⟨q1, q2, q3, q4⟩ := hq; exact ⟨q1, _, by rw [hc₁], q2, q3, rfl, q4⟩
      | panic ch => obtain ⟨q1, q4⟩ := hq; exact ⟨q1, _, by rw [hc₁], rfl, q4⟩
      | outgrown => exact ⟨_, rfl, hq⟩
      | exit id => exact hq.elim
      | goto l => exact hq.elim
    · have h1s : d1 < a.tmps.size := by rw [hasz]; exact h1n
      have h2s : d2 < (a.put (some d1) v').tmps.size := by simp [Act.put, hasz]; exact h2n
      simp only [tget_cons] at hx
      split at hx
      · rename_i e; subst e; injection hx with hx; subst hx
        rw [getD_put_same h2s]; exact hv'
      · rename_i e2
        rw [getD_put_ne e2]
        split at hx
        · rename_i e; subst e; injection hx with hx; subst hx
          rw [getD_put_same h1s]; exact hv'
        · rename_i e1
          rw [getD_put_ne e1]
          have := hslots t x hx
          cases x with
          | v z => exact this
          | un j b z =>
            have n1 := nokey_spec hk1 t j b z hx
            have n2 := nokey_spec hk2 t j b z hx
            simp only [TVRep, getD_put_ne n1, getD_put_ne n2] at this ⊢; exact this
  have hput : ∀ v', (a.put (some d1) v').eval (.tmp d1) = v' := fun v' => getD_put_same (by rw [hasz]; exact h1n)
  rw [show (List.range (#[(⟨some d1, .call ⟨.builtin .recover, #[], at_⟩, ty1, pos1, af1, none⟩ : Oper), ⟨some d2, .assign (.tmp d1), ty2, pos2, af2, none⟩] : Array Oper).size) = [0, 1] from rfl]
  have hrun : ∀ w : World, (execOp a.eval ⟨some d1, .call ⟨.builtin .recover, #[], at_⟩, ty1, pos1, af1, none⟩).run P w = .ok .recover w := fun w => by simp [execOp, resolve, invoke, builtin]
  unfold wpOpsS
  simp only [List.getElem?_toArray, List.getElem?_cons_zero]
  rw [if_pos (by simp [Region.wanted]), hrun]
  simp only
  rcases hu v c₀ cs hm with hrec | ⟨hrec, hu1, hy⟩
  · rw [hrec]
    simp only
    unfold wpOpsS
    simp only [List.getElem?_toArray, List.getElem?_cons_succ, List.getElem?_cons_zero]
    rw [if_pos (by simp [Region.wanted])]
    simp only [execOp, Sem.run_pure, Oper.upon, hput, wpOpsS]
    exact key v _ hvy rfl
  · rw [hrec]
    simp only
    unfold wpOpsS
    simp only [List.getElem?_toArray, List.getElem?_cons_succ, List.getElem?_cons_zero]
    rw [if_pos (by simp [Region.wanted])]
    simp only [execOp, Sem.run_pure, Oper.upon, hput, wpOpsS]
    refine key .nilIface _ (by rw [hy]; exact .imm _) ?_
    rw [hu1, ← hm]
theorem recR (v : Value) (c₀ : Frame) (cs : List Frame) (h : c₀.mode = modeR v) : (recoverD (c₀ :: cs) = some (v, { c₀ with mode := modeR v } :: cs)) ∨ (recoverD (c₀ :: cs) = none ∧ modeR v = modeR v ∧ HV.imm .nilIface = .imm .nilIface) := by
  refine .inr ⟨?_, rfl, rfl⟩
  simp [recoverD, h]
theorem recP (y : HV) (v : Value) (c₀ : Frame) (cs : List Frame) (h : c₀.mode = modeP v) : (recoverD (c₀ :: cs) = some (v, { c₀ with mode := modeP' v } :: cs)) ∨ (recoverD (c₀ :: cs) = none ∧ modeP' v = modeP v ∧ y = .imm .nilIface) := by
  left
  simp [recoverD, h]
end

section
variable {P : Program}
theorem hpure_ofD {f : FuncId} {fn : Func} {c : Code} (hf : P.funcs[f]? = some fn) (hb : fn.body = some c) (hn : (fn.name == "runtime.NumGoroutine") = false) (args : List HV) (r : HV) (tm : List (Nat × TV)) (htm : slots 0 args = tm) (n : Nat) (hnt : fn.ntmps = n) (hlen : Nat.ble args.length n = true)
    (h : ∀ w F, HWp (Ctx.top w F) P c ⟨n, tm, [], 0⟩ (bodyPostD P fn (PurePost w F r))) : HPure P f args r := by
  refine ⟨⟨fn, c, hf, hb, hn⟩, fun w F vs hF hr hw => calls_of_wp_defers hf hb (h w F _ w ?_)⟩
  obtain ⟨hl, hg⟩ := hr.get
  have hlen : args.length ≤ n := by simpa using hlen
  refine ⟨Env.just F, Ext.refl _ _, ⟨rfl, rfl, rfl, Nat.le_refl _, fun _ _ _ => rfl, hF, fun a ha => .inl ha, fun _ _ => trivial, hw, (fun id o ho => by cases ho), (fun id id' o o' l l' b ho => by cases ho)⟩, fun g hg => hg.elim, ?_, rfl, fun t x hx => ?_⟩
  · simp [hl, hnt]; omega
  · rw [← htm] at hx
    obtain ⟨i, y, rfl, h2, rfl⟩ := tget_slots args 0 t x hx
    obtain ⟨v, hv, hrep⟩ := hg i y h2
    have hi : i < vs.length := by
      rcases Nat.lt_or_ge i vs.length with h | h
      · exact h
      · rw [List.getElem?_eq_none h] at hv; cases hv
    have : ({ tmps := vs.toArray ++ Array.replicate (fn.ntmps - vs.toArray.size) undef, defers := [] } : Act).tmps.getD (0 + i) undef = v := by
      rw [Nat.zero_add]
      simp only [Array.getD_eq_getD_getElem?]
      rw [Array.getElem?_append_left (by simpa using hi)]
      simp [hv]
    rw [this]
    exact hrep

variable {Post : HEnd → List (Nat × HObj) → Nat → Prop}
end
theorem repAll_of {w : World} {E : Env} : ∀ (l : List Value) (m : List HV), l.length = m.length → (∀ i, i < m.length → ∃ v, l[i]? = some v ∧ Rep w E v (m.getD i default)) → RepAll w E l m
  | [], [], _, _ => trivial
  | v :: l, x :: m, hl, h => by
    obtain ⟨v', h1, h2⟩ := h 0 (by simp)
    simp at h1 h2
    subst h1
    exact ⟨h2, repAll_of l m (by simpa using hl) (fun i hi => by have := h (i + 1) (by simpa using hi); simpa using this)⟩
  | [], _ :: _, hl, _ => by simp at hl
  | _ :: _, [], hl, _ => by simp at hl
section
variable {P : Program} {C : Ctx} {n clk : Nat} {tm : List (Nat × TV)} {hp : List (Nat × HObj)} {fn : Func} {Rp : Ending → World → Prop} {f : FuncId} {hs : List HV} {pre : List (Nat × HObj)} {Post : HEnd → List (Nat × HObj) → Nat → Prop}
theorem leave_wait (u u' : Value → FrameMode) (hC : C.ds = []) (hu0 : ∀ v, u v ≠ .run) (hs' : ∀ v, settle (u' v) = .returning) {y : HV} (hc : HDef P f u u' clk hs y pre Post) (hpre : ∀ p ∈ pre, hget hp p.1 = some p.2) (hpn : ∀ x kp c', ¬ Post (.pan x) kp c')
    (h : ∀ r kp c', Post (.ret r) kp c' → HQ C (bodyPost P fn Rp) .ret ⟨n, tm, kp ++ hp, c'⟩) {a : Act} {w : World} {E : Env} {v : Value} (hvy : Rep w E v y) (e0 : Ext C.w0 C.E0 w E) (r : R C.K C.w0 C.E0.F E (hget hp) w) (hG : ∀ g, E.G g → g < clk) (hsz : a.tmps.size = n)
    (hdf : DefOk w E (C.wait (.fn (.func f) hs.length (fun i => hs.getD i default))).ds a.defers) (ht : ∀ t x, tget tm t = some x → TVRep w E a (a.tmps.getD t undef) x) : Leaves P fn a.tmps Rp a.defers (u v) w := by
  obtain ⟨fv, cap, rr, hd, hfn, hrest⟩ := hdf
  rw [hC] at hrest
  have hrr : rr = [] := hrest
  subst hrr
  rw [hd]
  cases hfn with
  | fn _ vcs _ _ vs hn hv hr =>
    have hall : RepAll w E cap.toList hs := repAll_of _ _ (by simpa using hn) (fun i hi => ⟨vs i, by rw [Array.getElem?_toList]; exact hv i hi, hr i hi⟩)
    refine leaves_cons (hu0 v) (f := f) (args := cap) ?_ ?_
    · simp only [invoke, Array.empty_append]
      exact run_callFunc hc.1 _ _
    · have hcalls := hc.2 ⟨C.K, C.w0, C.E0.F, E, hget hp, w, pre⟩ cap.toList v ⟨r, fun id o ho => hpre (id, o) (hget_mem ho)⟩ rfl hall hvy hG
      refine CallsD.mono hcalls ?_
      rintro e u2 w' ⟨rfl, x, kp, c', E', hP, e', r', hG', _, hv2⟩
      cases e with
      | returned v2 =>
        cases x with
        | pan x => exact hv2.elim
        | ret x =>
          simp only [hs']
          have := h x kp c' hP { a with defers := [] } w' ⟨E', e0.trans e', by simp only [hget_append]; exact r', hG', hsz, by rw [hC]; rfl, fun t y hy => by
            have := (ht t y hy).ext e'
            cases y with
            | v z => exact this
            | un j b z => exact this⟩
          exact this.2
      | panicked ch =>
        cases x with
        | ret x => exact hv2.elim
        | pan x => exact absurd hP (hpn x kp c')
      | outgrown => cases x <;> exact hv2.elim
/-- The function returns: its closure runs, and finds nothing to recover. -/
theorem hq_wait (hC : C.ds = []) (hc : HDef P f modeR modeR clk hs (.imm .nilIface) pre Post) (hpre : ∀ p ∈ pre, hget hp p.1 = some p.2) (hpn : ∀ x kp c', ¬ Post (.pan x) kp c')
    (h : ∀ r kp c', Post (.ret r) kp c' → HQ C (bodyPost P fn Rp) .ret ⟨n, tm, kp ++ hp, c'⟩) : HQ (C.wait (.fn (.func f) hs.length (fun i => hs.getD i default))) (bodyPostD P fn Rp) .ret ⟨n, tm, hp, clk⟩ := by
  intro a w ⟨E, e0, r, hG, hsz, hdf, ht⟩
  exact leave_wait modeR modeR hC (fun _ h => by cases h) (fun _ => rfl) hc hpre hpn h (v := .nilIface) (.imm _) e0 r hG hsz hdf ht
/-- The function panics: its closure recovers. -/
theorem hpan_wait {x : HV} (hC : C.ds = []) (hc : HDef P f modeP modeP' clk hs x pre Post) (hpre : ∀ p ∈ pre, hget hp p.1 = some p.2) (hpn : ∀ x kp c', ¬ Post (.pan x) kp c')
    (h : ∀ r kp c', Post (.ret r) kp c' → HQ C (bodyPost P fn Rp) .ret ⟨n, tm, kp ++ hp, c'⟩) : HPan (C.wait (.fn (.func f) hs.length (fun i => hs.getD i default))) (bodyPostD P fn Rp) ⟨n, tm, hp, clk⟩ x := by
  intro a w E v e0 r hG hsz hdf ht hv
  exact leave_wait modeP modeP' hC (fun _ h => by cases h) (fun _ => rfl) hc hpre hpn h (v := v) hv e0 r hG hsz hdf ht
end
end Go.Proofs.YtmcchhmgchgaaaaDoor

namespace Go.Proofs.YtmcchhmgchgaaaaDoor
set_option linter.unusedSimpArgs false
set_option linter.unusedVariables false
open Go.RowKit

section
variable {P : Program} {ops : Array Oper} {ov : Nat → Option HV} {g : Nat} {d : Option Tmp} {ty : TypeId} {pos : String} {af : Array Edge} {gd : Option (Nat × Bool)} {T yT : TypeId} {x y : Operand}
theorem hop_assert_ok {t : TypeId} {hv : HV} {xT : TypeId} (hT : (match P.underlying t with | some (.interface _) => false | some _ => true | none => false) = true) (h1 : ovl ov x = some (.ifc t hv)) : HOp P ⟨d, .typeAssert x xT t true, ty, pos, af, gd⟩ ov g [] (t2 hv (.imm (.bool true))) [] :=
  hop_pure fun w E ρ hr => by
    have h := hr x _ (by simp [Op.operands]) h1
    generalize hρ : ρ x = u at h
    cases h with
    | ifc _ v _ h =>
      refine ⟨.tuple #[v, .bool true], ?_, .tup _ 2 _ (fun i => match i with | 0 => v | _ => .bool true) rfl (fun i hi => by match i, hi with | 0, _ => rfl | 1, _ => rfl) (fun i hi => by match i, hi with | 0, _ => exact h | 1, _ => exact .imm _)⟩
      cases hu : P.underlying t with
      | none => rw [hu] at hT; cases hT
      | some dd =>
        rw [hu] at hT
        simp only [execOp, hρ, Instr.typeAssert, Sem.run_bind, run_underlying hu, Result.andThen_ok]
        cases dd <;> first | (simp; done) | cases hT
theorem equal_ifc_nil {t : TypeId} {v : Value} {w : World} {ms : _} (hu : P.underlying T = some (.interface ms)) : (Op.equal T (.iface t v) .nilIface).run P w = .ok false w := by
  have : Op.equal T (.iface t v) .nilIface = Op.equalIn (Op.maxDepth - 1 + 1) T (.iface t v) .nilIface := rfl
  rw [this]
  simp only [Op.equalIn, Sem.run_bind, run_underlying hu, Result.andThen_ok, Sem.run_pure]
theorem equal_nil_nil {w : World} {ms : _} (hu : P.underlying T = some (.interface ms)) : (Op.equal T .nilIface .nilIface).run P w = .ok true w := by
  have : Op.equal T .nilIface .nilIface = Op.equalIn (Op.maxDepth - 1 + 1) T .nilIface .nilIface := rfl
  rw [this]
  simp only [Op.equalIn, Sem.run_bind, run_underlying hu, Result.andThen_ok, Sem.run_pure]
theorem hop_ifc_ne_nil {t : TypeId} {hv : HV} (hT : (match P.underlying T with | some (.interface _) => true | _ => false) = true) (h1 : ovl ov x = some (.ifc t hv)) : HOp P ⟨d, .binOp .neq T x (.const .nilIface) yT, ty, pos, af, gd⟩ ov g [] (.imm (.bool true)) [] :=
  hop_pure fun w E ρ hr => by
    have h := hr x _ (by simp [Op.operands]) h1
    have e2 : ρ (.const .nilIface) = .nilIface := Rep.imm_inv (hr (.const .nilIface) _ (by simp [Op.operands]) rfl)
    generalize hρ : ρ x = u at h
    cases h with
    | ifc _ v _ h =>
      refine ⟨_, ?_, .imm _⟩
      cases hu : P.underlying T with
      | none => rw [hu] at hT; cases hT
      | some dd =>
        rw [hu] at hT
        cases dd <;> first | cases hT | skip
        simp [execOp, hρ, e2, eqGuard, binOp, equal_ifc_nil hu]
theorem hop_nil_ne_nil (hT : (match P.underlying T with | some (.interface _) => true | _ => false) = true) (h1 : ovl ov x = some (.imm .nilIface)) : HOp P ⟨d, .binOp .neq T x (.const .nilIface) yT, ty, pos, af, gd⟩ ov g [] (.imm (.bool false)) [] :=
  hop_pure fun w E ρ hr => by
    have e1 := Rep.imm_inv (hr x _ (by simp [Op.operands]) h1)
    have e2 : ρ (.const .nilIface) = .nilIface := Rep.imm_inv (hr (.const .nilIface) _ (by simp [Op.operands]) rfl)
    refine ⟨_, ?_, .imm _⟩
    cases hu : P.underlying T with
    | none => rw [hu] at hT; cases hT
    | some dd =>
      rw [hu] at hT
      cases dd <;> first | cases hT | skip
      simp [execOp, e1, e2, eqGuard, binOp, equal_nil_nil hu]

end
/-- What an iterator over s holds: where it is. -/
def iterO (g : Nat) (s : ByteArray) (p : Nat) : HObj := ⟨g, 0, 1, 0, 1, fun _ _ => .imm (.tuple #[.string s, .int .i64 (p : Int)])⟩
theorem iterO_raw {o : HObj} {ob : Obj} {g : Nat} {s : ByteArray} {p : Nat} (h : RawIs o ob) (ho : o = iterO g s p) : ob = .stringIter s p := by
  cases h with
  | iter g' ty' s' p' =>
    unfold iterO at ho
    injection ho with _ _ _ _ _ hf
    have h0 := congrFun (congrFun hf 0) 0
    injection h0 with h0
    injection h0 with h0
    have h1 : (.string s' : Value) = .string s := by have := congrArg (fun a => a[0]?) h0; simpa using this
    have h2 : (.int .i64 (p' : Int) : Value) = .int .i64 (p : Int) := by have := congrArg (fun a => a[1]?) h0; simpa using this
    injection h1 with h1
    injection h2 with _ h2
    have : p' = p := by omega
    subst h1; subst this; rfl
section
variable {K : Nat → Prop} {w0 w w' : World} {F0 : Addr → Prop} {E E' : Env} {h h' : Nat → Option HObj}
theorem R.newRaw (r : R K w0 F0 E h w) (id : Nat) (o : HObj) (ob : Obj) (hraw : RawIs o ob) (hg : ¬ E.G o.g) (hsz : 0 < o.sz) :
    Ext w E (w.alloc ob) (E.new id o.g w.heap.size 0 o.sz) ∧ R K w0 F0 (E.new id o.g w.heap.size 0 o.sz) (hset h id o) (w.alloc ob) := by
  have hb : Below w.heap.size w (w.alloc ob) := (Below.refl _ _).alloc (Nat.le_refl _) _
  have e : Ext w E (w.alloc ob) (E.new id o.g w.heap.size 0 o.sz) := Ext.new w E id o.g _ 0 o.sz hg _ hb.size (fun a ha => ((r.extBelow hb).F a ha).2)
  refine ⟨e, hb.os.trans r.os, hb.tape.trans r.tape, hb.output.trans r.output, Nat.le_trans r.size hb.size, fun k hk hK => (hb.block k (Nat.lt_of_lt_of_le hk r.size)).trans (r.keep k hk hK),
    fun a ha => ⟨(r.frz a ha).1, by rw [(e.F a ha).2]; exact (r.frz a ha).2⟩, r.fnew, r.klib, r.lib, fun k o1 ho => ?_, fun k k' o1 o2 l l' b ho ho' hl hl' hb1 hb2 => ?_⟩
  · by_cases hk : k = id
    · subst hk
      rw [hset_same] at ho
      injection ho with ho
      subst ho
      refine ⟨_, Env.new_L _ _ _ _ _ _, rfl, .inr rfl, rfl, hsz, .inr (.inr ⟨w.heap.size, ob, rfl, by show (w.heap.push ob)[w.heap.size]? = _; simp, hraw, fun hlt => absurd hlt (by have := r.size; omega)⟩)⟩
    · rw [hset_ne _ _ hk] at ho
      obtain ⟨l, hl, a⟩ := r.obj k o1 ho
      exact ⟨l, by rw [Env.new_Lne E hk]; exact hl, a.ext e (fun b hb' => hb.block b (a.lt hb')) (fun _ _ _ hF => hF)⟩
  · have old : ∀ k o1 l, k ≠ id → hset h id o k = some o1 → (E.new id o.g w.heap.size 0 o.sz).L k = some l → h k = some o1 ∧ E.L k = some l ∧ ∀ b, l.A = some b → b < w.heap.size := by
      intro k o1 l hk ho hl
      rw [hset_ne _ _ hk] at ho
      rw [Env.new_Lne E hk] at hl
      obtain ⟨l', hl', a⟩ := r.obj k o1 ho
      rw [hl] at hl'
      injection hl' with hl'
      subst hl'
      exact ⟨ho, hl, fun b hb' => a.lt hb'⟩
    by_cases hk : k = id <;> by_cases hk' : k' = id
    · rw [hk, hk']
    · subst hk
      rw [Env.new_L] at hl
      injection hl with hl
      subst hl
      have := (old k' o2 l' hk' ho' hl').2.2 b hb2
      injection hb1 with hb1
      omega
    · subst hk'
      rw [Env.new_L] at hl'
      injection hl' with hl'
      subst hl'
      have := (old k o1 l hk ho hl).2.2 b hb1
      injection hb2 with hb2
      omega
    · have a1 := old k o1 l hk ho hl
      have a2 := old k' o2 l' hk' ho' hl'
      exact r.inj k k' o1 o2 l l' b a1.1 a2.1 a1.2.1 a2.2.1 hb1 hb2
/-- What is known of an iterator. -/
theorem R.rawAt (r : R K w0 F0 E h w) {id g : Nat} {s : ByteArray} {p : Nat} (ho : h id = some (iterO g s p)) : ∃ l b, E.L id = some l ∧ l.g = g ∧ l.sz = 1 ∧ l.A = some b ∧ w.heap[b]? = some (.stringIter s p) := by
  obtain ⟨l, hl, a⟩ := r.obj id _ ho
  rcases a.at_ with ⟨h0, h1, h2, h3⟩ | ⟨b, cs, h1, h2, h3, h4, h5, h6, h8, h9⟩ | ⟨b, ob, h1, h2, h3, h4⟩
  · exact absurd h3 (by show ¬ (1 ≤ 0); omega)
  · exact absurd h9.2 (by show ¬ (1 ≤ 0); omega)
  · exact ⟨l, b, hl, a.g, a.sz, h1, by rw [iterO_raw h3 rfl] at h2; exact h2⟩
end

theorem R.setRaw {K : Nat → Prop} {w0 w : World} {F0 : Addr → Prop} {E : Env} {h : Nat → Option HObj} (r : R K w0 F0 E h w) {id g : Nat} {s : ByteArray} {p p' : Nat} {l : Loc} {b : Nat} (ho : h id = some (iterO g s p)) (hl : E.L id = some l) (hb : l.A = some b) (hw : w.heap[b]? = some (.stringIter s p)) :
    Ext w E { w with heap := w.heap.setIfInBounds b (.stringIter s p') } E ∧ R K w0 F0 E (hset h id (iterO g s p')) { w with heap := w.heap.setIfInBounds b (.stringIter s p') } := by
  obtain ⟨l', hl', a⟩ := r.obj id _ ho
  rw [hl] at hl'; injection hl' with hl'; subst hl'
  have hlt := a.lt hb
  refine r.write id _ _ l b ho hl hb rfl rfl rfl (by simp) (fun k hk => ?_) (fun k hk => ?_) (fun e => ⟨a.g, a.G, a.sz, a.pos, .inr (.inr ⟨b, _, hb, ?_, .iter .., a.notK hb⟩)⟩)
  · show (w.heap.setIfInBounds b _)[k]? = _
    rw [Array.getElem?_setIfInBounds_ne (Ne.symm hk)]
  · have := (r.frz _ hk).2
    simp [World.cell?, hw] at this
  · show (w.heap.setIfInBounds b _)[b]? = _
    rw [Array.getElem?_setIfInBounds_self_of_lt hlt]
section
variable {P : Program} {ops : Array Oper} {ov : Nat → Option HV} {g : Nat} {d : Option Tmp} {ty : TypeId} {pos : String} {af : Array Edge} {gd : Option (Nat × Bool)} {T yT : TypeId} {x y : Operand}
theorem hop_range_s {id : Nat} {s : ByteArray} (hT : P.underlying T = some .string) (h1 : ovl ov x = some (.imm (.string s))) : HOp P ⟨d, .range T x, ty, pos, af, gd⟩ ov g [] (.pt id g 0 0) [(id, iterO g s 0)] := by
  intro K w0 F0 E hh a w Q N r ht hG hBd hpre hN
  have e1 := Rep.imm_inv (ht x _ (by simp [Op.operands]) h1)
  have hnew := r.newRaw id (iterO g s 0) (.stringIter s 0) (.iter ..) hG (by show 0 < 1; omega)
  refine wp_val (v := .pointer (some ⟨w.heap.size, 0, none⟩)) (w' := w.alloc (.stringIter s 0)) ?_ (hN _ _ _ hnew.1 hnew.2 (fun g' hg' => hg'.imp (fun h => h) fun h => ⟨by simp, h⟩) ?_)
  · simp only [execOp, e1, Sem.run_bind, run_range_string w T s hT, Result.andThen_ok, Sem.run_pure]; rfl
  · refine .pt w.heap.size 0 id g 0 0 (.inr rfl) (fun l hl _ => ?_)
    rw [Env.new_L] at hl; injection hl with hl; subst hl
    exact ⟨rfl, rfl⟩
theorem run_next_at (w : World) (b : Nat) (s : ByteArray) (p : Nat) (ty : TypeId) (hw : w.heap[b]? = some (.stringIter s p)) (h : p < s.size) (ha : (s[p]'h).toNat < 128) :
    (Instr.next (.pointer (some ⟨b, 0, none⟩)) true ty).run P w = .ok (.tuple #[.bool true, .int .i64 (p : Int), .int .i32 ((s[p]'h).toNat : Int)]) { w with heap := w.heap.setIfInBounds b (.stringIter s (p + 1)) } := by
  simp only [Instr.next, getObj, setObj, Sem.run_bind, Sem.run, hw, Result.andThen, h, if_true, decode_ascii s p h ha]
  simp [goInt, Sem.run, hw]
theorem run_next_stop (w : World) (b : Nat) (s : ByteArray) (p : Nat) (ty : TypeId) (hw : w.heap[b]? = some (.stringIter s p)) (h : ¬ p < s.size) :
    (Instr.next (.pointer (some ⟨b, 0, none⟩)) true ty).run P w = .ok (.tuple #[.bool false]) w := by
  simp [Instr.next, getObj, Sem.run, hw, h]
theorem hop_next_s {id gg p : Nat} {s : ByteArray} {c : Int} (h1 : ovl ov x = some (.pt id gg 0 0)) (h : p < s.size) (ha : (s[p]'h).toNat < 128) (hc : ((s[p]'h).toNat : Int) = c) : HOp P ⟨d, .next x true, ty, pos, af, gd⟩ ov g [(id, iterO gg s p)] (t3 (.imm (.bool true)) (.imm (.int .i64 (p : Int))) (.imm (.int .i32 c))) [(id, iterO gg s (p + 1))] := by
  subst hc
  intro K w0 F0 E hh a w Q N r ht hG hBd hpre hN
  have ho := hpre _ (List.mem_cons_self ..)
  obtain ⟨l, b, hl, hlg, hlsz, hlA, hwb⟩ := r.rawAt ho
  have hX := ht x _ (by simp [Op.operands]) h1
  generalize hρ : a.eval x = u at hX
  cases hX with
  | pt b' k _ _ _ _ hgg hh' =>
    obtain ⟨h2, rfl⟩ := hh' l hl hlg
    rw [hlA] at h2; injection h2 with h2; subst h2
    rw [show 0 * l.sz + 0 = 0 from by simp] at hρ
    have hset := r.setRaw (p' := p + 1) ho hl hlA hwb
    refine wp_val (v := .tuple #[.bool true, .int .i64 (p : Int), .int .i32 ((s[p]'h).toNat : Int)]) ?_ (hN _ _ _ hset.1 hset.2 (fun g' hg' => .inl hg') ?_)
    · simp only [execOp, hρ, Sem.run_bind, run_next_at w b s p ty hwb h ha, Result.andThen_ok, Sem.run_pure]
    · exact .tup _ 3 _ (fun i => match i with | 0 => .bool true | 1 => .int .i64 (p : Int) | _ => .int .i32 ((s[p]'h).toNat : Int)) rfl (fun i hi => by match i, hi with | 0, _ => rfl | 1, _ => rfl | 2, _ => rfl) (fun i hi => by match i, hi with | 0, _ => exact .imm _ | 1, _ => exact .imm _ | 2, _ => exact .imm _)
theorem hop_next_end {id gg p : Nat} {s : ByteArray} (h1 : ovl ov x = some (.pt id gg 0 0)) (h : ¬ p < s.size) : HOp P ⟨d, .next x true, ty, pos, af, gd⟩ ov g [(id, iterO gg s p)] (.tup 1 (fun _ => .imm (.bool false))) [] := by
  intro K w0 F0 E hh a w Q N r ht hG hBd hpre hN
  have ho := hpre _ (List.mem_cons_self ..)
  obtain ⟨l, b, hl, hlg, hlsz, hlA, hwb⟩ := r.rawAt ho
  have hX := ht x _ (by simp [Op.operands]) h1
  generalize hρ : a.eval x = u at hX
  cases hX with
  | pt b' k _ _ _ _ hgg hh' =>
    obtain ⟨h2, rfl⟩ := hh' l hl hlg
    rw [hlA] at h2; injection h2 with h2; subst h2
    rw [show 0 * l.sz + 0 = 0 from by simp] at hρ
    refine wp_val (v := .tuple #[.bool false]) ?_ (hN _ _ _ (Ext.refl _ _) r (fun g' hg' => .inl hg') ?_)
    · simp only [execOp, hρ, Sem.run_bind, run_next_stop w b s p ty hwb h, Result.andThen_ok, Sem.run_pure]
    · exact .tup _ 1 _ (fun _ => .bool false) rfl (fun i hi => by match i, hi with | 0, _ => rfl) (fun i hi => .imm _)
/-- An operation under a guard that stands under a guard itself. -/
theorem hstep_guard3 {o : Oper} {tm : Nat → Option TV} {pre : List (Nat × HObj)} {v : HV} (gi j j2 : Nat) (b2 b c c2 : Bool) (hg : o.guard = some (gi, b)) (hgi : (ops[gi]?).bind (·.dst) = some j)
    (hc : tm j = some (.un j2 b2 (.imm (.bool c)))) (hc2 : tm j2 = some (.v (.imm (.bool c2)))) (h : c = b → c2 = b2 → HOp P o (gview tm j b) g pre v []) : HStep P ops o tm g ⟨.un j b v, j :: j2 :: ops_tmps o, pre, []⟩ := by
  intro K w0 F0 E hh a w Q N r ht hG hBd hp hN
  have hwant : Region.wanted o (yielded ops a.tmps) = true ↔ a.tmps.getD j undef = .bool b := by
    unfold Region.wanted yielded
    rw [hg]
    simp only [hgi, Option.bind_some]
    by_cases hj : j < a.tmps.size
    · have e1 : a.tmps[j]? = some a.tmps[j] := Array.getElem?_eq_getElem hj
      have e2 : a.tmps.getD j undef = a.tmps[j] := by simp [hj]
      rw [e1, e2]
      cases h : a.tmps[j] <;> simp
    · have e1 : a.tmps[j]? = none := Array.getElem?_eq_none (by omega)
      have e2 : a.tmps.getD j undef = undef := by simp [hj]
      rw [e1, e2]
      try simp [undef]
  by_cases hj : a.tmps.getD j undef = .bool b
  · rw [if_pos (hwant.2 hj)]
    have h2 := ht j _ (List.mem_cons_self ..) hc
    have h4 := Rep.imm_inv (ht j2 _ (List.mem_cons_of_mem _ (List.mem_cons_self ..)) hc2)
    have h3 : a.tmps.getD j2 undef = .bool b2 := by
      refine Classical.byContradiction fun hne => ?_
      have := h2.2 hne
      rw [hj] at this
      exact absurd this (by simp [undef])
    have hcb : c = b := by
      have := Rep.imm_inv (h2.1 h3)
      rw [hj] at this; injection this with this; exact this.symm
    have hcb2 : c2 = b2 := by rw [h3] at h4; injection h4 with h4; exact h4.symm
    refine h hcb hcb2 K w0 F0 E hh a w Q N r (fun x hv hx ho => ?_) hG hBd hp (fun val w' E' e r' hG' hv => hN val w' E' e r' hG' ⟨fun _ => hv, fun hne => absurd hj hne⟩)
    cases x with
    | tmp t => exact gview_sound hj (fun y hy => ht j y (List.mem_cons_self ..) hy) (fun y hy => ht t y (List.mem_cons_of_mem _ (List.mem_cons_of_mem _ (mem_tmps hx))) hy) ho
    | const v => exact rep_cst w E _ v _ ho
    | global k => injection ho with ho; subst ho; exact .imm _
    | func f => injection ho with ho; subst ho; exact .fn (.func f) #[] 0 _ (fun _ => undef) rfl (fun i hi => absurd hi (Nat.not_lt_zero _)) (fun i hi => absurd hi (Nat.not_lt_zero _))
  · rw [if_neg (fun h => hj (hwant.1 h))]
    exact hN undef w E (Ext.refl _ _) r (fun _ h => .inl h) ⟨fun h => absurd h hj, fun _ => rfl⟩
/-- A pick under a guard. -/
theorem hstep_pickg {tm : Nat → Option TV} {gi j j1 : Nat} {b : Bool} (c : Bool) (hx hy v : HV) (hgi : (ops[gi]?).bind (·.dst) = some j) (h0 : tm j1 = some (.un j b (.imm (.bool c)))) (h1 : ovl (gview tm j1 true) x = some hx) (h2 : ovl (gview tm j1 false) y = some hy) (hv1 : c = true → Sb hx v) (hv2 : c = false → Sb hy v) :
    HStep P ops ⟨d, .pick (.tmp j1) x y, ty, pos, af, some (gi, b)⟩ tm g ⟨.un j b v, j :: j1 :: ops_tmps ⟨d, .pick (.tmp j1) x y, ty, pos, af, some (gi, b)⟩, [], []⟩ := by
  intro K w0 F0 E hh a w Q N r ht hG hBd hp hN
  have hwant : Region.wanted ⟨d, .pick (.tmp j1) x y, ty, pos, af, some (gi, b)⟩ (yielded ops a.tmps) = true ↔ a.tmps.getD j undef = .bool b := by
    unfold Region.wanted yielded
    simp only [hgi, Option.bind_some]
    by_cases hj : j < a.tmps.size
    · have e1 : a.tmps[j]? = some a.tmps[j] := Array.getElem?_eq_getElem hj
      have e2 : a.tmps.getD j undef = a.tmps[j] := by simp [hj]
      rw [e1, e2]
      cases h : a.tmps[j] <;> simp
    · have e1 : a.tmps[j]? = none := Array.getElem?_eq_none (by omega)
      have e2 : a.tmps.getD j undef = undef := by simp [hj]
      rw [e1, e2]
      try simp [undef]
  by_cases hj : a.tmps.getD j undef = .bool b
  · rw [if_pos (hwant.2 hj)]
    have hj1 : a.eval (.tmp j1) = .bool c := Rep.imm_inv ((ht j1 _ (List.mem_cons_of_mem _ (List.mem_cons_self ..)) h0).1 hj)
    have look : ∀ (b' : Bool) (z : Operand) (h : HV), c = b' → z ∈ (Op.pick (.tmp j1) x y).operands.toList → ovl (gview tm j1 b') z = some h → Rep w E (a.eval z) h := by
      intro b' z h hb hz ho
      subst hb
      cases z with
      | tmp t => exact gview_sound hj1 (fun y hy => ht j1 y (List.mem_cons_of_mem _ (List.mem_cons_self ..)) hy) (fun y hy => ht t y (List.mem_cons_of_mem _ (List.mem_cons_of_mem _ (mem_tmps hz))) hy) ho
      | const v => exact rep_cst w E _ v _ ho
      | global k => injection ho with ho; subst ho; exact .imm _
      | func f => injection ho with ho; subst ho; exact .fn (.func f) #[] 0 _ (fun _ => undef) rfl (fun i hi => absurd hi (Nat.not_lt_zero _)) (fun i hi => absurd hi (Nat.not_lt_zero _))
    refine wp_val (v := if c = true then a.eval x else a.eval y) (w' := w) ?_ (hN _ w E (Ext.refl _ _) r (fun _ h => .inl h) ⟨fun _ => ?_, fun hne => absurd hj hne⟩)
    · cases c <;> simp [execOp, hj1, asBool]
    · cases c with
      | true => exact (hv1 rfl).sound (look true x hx rfl (by simp [Op.operands]) h1)
      | false => exact (hv2 rfl).sound (look false y hy rfl (by simp [Op.operands]) h2)
  · rw [if_neg (fun h => hj (hwant.1 h))]
    exact hN undef w E (Ext.refl _ _) r (fun _ h => .inl h) ⟨fun h => absurd h hj, fun _ => rfl⟩
theorem hstep_org {tm : Nat → Option TV} {gi j j1 : Nat} {b : Bool} (c e : Bool) (hgi : (ops[gi]?).bind (·.dst) = some j) (h0 : tm j1 = some (.un j b (.imm (.bool c)))) (h1 : ovl (gview tm j1 true) x = some (.imm (.bool true))) (h2 : ovl (gview tm j1 false) y = some (.imm (.bool e))) :
    HStep P ops ⟨d, .pick (.tmp j1) x y, ty, pos, af, some (gi, b)⟩ tm g ⟨.un j b (.imm (.bool (c || e))), j :: j1 :: ops_tmps ⟨d, .pick (.tmp j1) x y, ty, pos, af, some (gi, b)⟩, [], []⟩ :=
  hstep_pickg c _ _ _ hgi h0 h1 h2 (fun h => by subst h; exact .refl _) (fun h => by subst h; exact .refl _)
theorem hstep_andg {tm : Nat → Option TV} {gi j j1 : Nat} {b : Bool} (c e : Bool) (hgi : (ops[gi]?).bind (·.dst) = some j) (h0 : tm j1 = some (.un j b (.imm (.bool c)))) (h1 : ovl (gview tm j1 true) x = some (.imm (.bool e))) (h2 : ovl (gview tm j1 false) y = some (.imm (.bool false))) :
    HStep P ops ⟨d, .pick (.tmp j1) x y, ty, pos, af, some (gi, b)⟩ tm g ⟨.un j b (.imm (.bool (c && e))), j :: j1 :: ops_tmps ⟨d, .pick (.tmp j1) x y, ty, pos, af, some (gi, b)⟩, [], []⟩ :=
  hstep_pickg c _ _ _ hgi h0 h1 h2 (fun h => by subst h; exact .refl _) (fun h => by subst h; exact .refl _)
end
section
variable {C : Ctx} {P : Program} {ops : Array Oper} {Q : Exit → Act → World → Prop} {n clk : Nat} {tm : List (Nat × TV)} {hp : List (Nat × HObj)} {o : Oper} {rest : List Oper} {v : HV}
theorem hq_g3 {pre : List (Nat × HObj)} (d gi j j2 : Nat) (b2 b c c2 : Bool) (hop : c = b → c2 = b2 → HOp P o (gview (tget tm) j b) clk pre v []) (hd : o.dst = some d) (hg : o.guard = some (gi, b)) (hgi : (ops[gi]?).bind (·.dst) = some j) (hc : tget tm j = some (.un j2 b2 (.imm (.bool c)))) (hc2 : tget tm j2 = some (.v (.imm (.bool c2)))) (hpre : ∀ p ∈ pre, hget hp p.1 = some p.2) (hlt : Nat.blt d n = true) (hk : nokey tm d = true) (hjd : Nat.beq j d = false)
    (h : HSeq C P ops rest ⟨n, (d, .un j b v) :: tm, hp, clk⟩ Q) : HSeq C P ops (o :: rest) ⟨n, tm, hp, clk⟩ Q :=
  hseq_consq (s := ⟨n, tm, hp, clk⟩) d _ hd rfl (hstep_guard3 gi j j2 b2 b c c2 hg hgi hc hc2 hop) hpre hlt hk h (fun j' b' x h => by injection h with h1 h2 h3; subst h1; rw [← Bool.not_eq_true, Nat.beq_eq] at hjd; exact hjd)
theorem hq_pg (d : Nat) {need : List Nat} {j : Nat} {b : Bool} (hst : HStep P ops o (tget tm) clk ⟨.un j b v, need, [], []⟩) (hd : o.dst = some d) (hlt : Nat.blt d n = true) (hk : nokey tm d = true) (hjd : Nat.beq j d = false) (h : HSeq C P ops rest ⟨n, (d, .un j b v) :: tm, hp, clk⟩ Q) : HSeq C P ops (o :: rest) ⟨n, tm, hp, clk⟩ Q :=
  hseq_consq (s := ⟨n, tm, hp, clk⟩) d _ hd rfl hst pre0 hlt hk h (fun j' b' x h => by injection h with h1 h2 h3; subst h1; rw [← Bool.not_eq_true, Nat.beq_eq] at hjd; exact hjd)
end
section
variable {K : Nat → Prop} {w0 w : World} {F0 : Addr → Prop} {E : Env} {h : Nat → Option HObj}
/-- What an object holds, told anew. -/
theorem R.tell (r : R K w0 F0 E h w) (id : Nat) {g n sz : Nat} {ty : TypeId} {fl : Nat} {f f' : Nat → Nat → HV} (ho : h id = some ⟨g, n, sz, ty, fl, f⟩)
    (hc : ∀ l b cs, E.L id = some l → l.A = some b → Blk w b ty cs → ∀ i j u, i < n → j < sz → cs[i * sz + j]? = some u → Rep w E u (f i j) → Rep w E u (f' i j)) (hfn : fl ≤ n := by first | exact Nat.zero_le _ | exact Nat.le_refl _ | omega) : R K w0 F0 E (hset h id ⟨g, n, sz, ty, fl, f'⟩) w :=
  { r with
    obj := fun k o hk => by
      by_cases e : k = id
      · subst e
        rw [hset_same] at hk; injection hk with hk; subst hk
        obtain ⟨l, hl, a⟩ := r.obj k _ ho
        refine ⟨l, hl, a.g, a.G, a.sz, a.pos, ?_⟩
        rcases a.at_ with h0 | ⟨b, cs, g1, g2, g3, g4, g5, g6, ⟨vs, g8⟩, g9⟩ | ⟨_, _, _, _, h3, _⟩
        rotate_right
        · have h7 := h3.n; have h8 := h3.fl; simp only at h7 h8; omega
        · exact .inl h0
        · exact .inr (.inl ⟨b, cs, g1, g2, g3, g4, g5, g6, ⟨vs, fun i j hi hj => ⟨(g8 i j hi hj).1, (g8 i j hi hj).2.1, hc l b cs hl g1 g2 i j _ hi hj (g8 i j hi hj).1 (g8 i j hi hj).2.2⟩⟩, g9⟩)
      · rw [hset_ne _ _ e] at hk
        exact r.obj k o hk
    inj := fun k k' o o' l l' b hk hk' hl hl' hb hb' => by
      have old : ∀ k o, hset h id ⟨g, n, sz, ty, fl, f'⟩ k = some o → ∃ o, h k = some o := by
        intro k o hk
        by_cases e : k = id
        · subst e; exact ⟨_, ho⟩
        · rw [hset_ne _ _ e] at hk; exact ⟨o, hk⟩
      obtain ⟨p, hp⟩ := old k o hk
      obtain ⟨q, hq⟩ := old k' o' hk'
      exact r.inj k k' p q l l' b hp hq hl hl' hb hb' }
end
/-- A cell that holds a nil slice gets an empty row. -/
theorem hsub_ownc {C : Ctx} {n clk : Nat} {tm : List (Nat × TV)} {hp : List (Nat × HObj)} (id0 j0 id sz : Nat) (ty : TypeId) (f : Nat → Nat → HV) {g0 m0 : Nat} {ty0 : TypeId} {f0 : Nat → Nat → HV} (f' : Nat → Nat → HV) (ho : hget hp id0 = some ⟨g0, 1, m0, ty0, 0, f0⟩) (hf0 : f0 0 j0 = .imm (.slice none 0 0)) (hf' : ∀ j, j < m0 → (j = j0 ∧ f' 0 j = .os id clk 0 0) ∨ f' 0 j = f0 0 j) (hid : id0 ≠ id) (hsz : 0 < sz) {c' : Nat} (hc : clk + 1 = c') :
    HSub C ⟨n, tm, hp, clk⟩ ⟨n, tm, (id0, ⟨g0, 1, m0, ty0, 0, f'⟩) :: (id, ⟨clk, 0, sz, ty, 0, f⟩) :: hp, c'⟩ := by
  subst hc
  intro a w ⟨E, e0, r, hG, hsz', hdf, htm⟩
  have hg : ¬ E.G clk := fun h => absurd (hG _ h) (Nat.lt_irrefl _)
  obtain ⟨e, r'⟩ := r.newNil id clk sz ty f hg hsz
  have r2 := r'.tell id0 (g := g0) (n := 1) (sz := m0) (ty := ty0) (fl := 0) (f' := f') (by rw [hset_ne _ _ hid]; exact ho) (fun l b cs hl hA hB i j u hi hj hu hr => by
    obtain rfl : i = 0 := by omega
    rcases hf' j hj with ⟨rfl, h2⟩ | h2
    · rw [h2]
      rw [hf0] at hr
      rw [hr.imm_inv]
      refine .os none 0 0 id clk 0 (.inr rfl) (Nat.le_refl _) (Nat.zero_le _) (fun h => absurd h (Nat.lt_irrefl _)) (fun l hl _ _ => ?_)
      rw [Env.place_L] at hl; injection hl with hl; subst hl
      exact ⟨rfl, rfl⟩
    · rw [h2]; exact hr)
  refine ⟨_, e0.trans e, by simp only [hget_cons]; exact r2, fun g hg => ?_, hsz', hdf.ext e, fun t x hx => (htm t x hx).ext e⟩
  rcases hg with hg | hg
  · exact Nat.lt_succ_of_lt (hG g hg)
  · rw [hg]; exact Nat.lt_succ_self _
end Go.Proofs.YtmcchhmgchgaaaaDoor

namespace Go.Proofs.YtmcchhmgchgaaaaDoor
set_option linter.unusedSimpArgs false
set_option linter.unusedVariables false
open Go.RowKit

theorem ty_3 : tyOf Tryd.prog 3 = some (false, 1) := by kernel_rfl
theorem zc_3 : zcs Tryd.prog 3 = some [.int .i64 0] := by kernel_rfl
theorem ty_4 : tyOf Tryd.prog 4 = some (false, 1) := by kernel_rfl
theorem ty_9 : tyOf Tryd.prog 9 = some (false, 1) := by kernel_rfl
theorem ty_27 : tyOf Tryd.prog 27 = some (false, 1) := by kernel_rfl
theorem ei_27 : elInfo Tryd.prog 27 = some (5, 1, 1, true) := by kernel_rfl
theorem ty_29 : tyOf Tryd.prog 29 = some (false, 1) := by kernel_rfl
theorem zc_29 : zcs Tryd.prog 29 = some [.int .i64 0] := by kernel_rfl
theorem ty_33 : tyOf Tryd.prog 33 = some (false, 1) := by kernel_rfl
theorem ei_33 : elInfo Tryd.prog 33 = some (9, 1, 16, true) := by kernel_rfl
theorem el_33 : elOf Tryd.prog 33 = some (9, 1) := by kernel_rfl
theorem zc_33 : zcs Tryd.prog 33 = some [.slice none 0 0] := by kernel_rfl
theorem el_41 : elOf Tryd.prog 41 = some (46, 5) := by kernel_rfl
theorem ty_44 : tyOf Tryd.prog 44 = some (false, 1) := by kernel_rfl
theorem ei_44 : elInfo Tryd.prog 44 = some (3, 1, 8, true) := by kernel_rfl
theorem el_44 : elOf Tryd.prog 44 = some (3, 1) := by kernel_rfl
theorem ty_46 : tyOf Tryd.prog 46 = some (true, 5) := by kernel_rfl
theorem zc_46 : zcs Tryd.prog 46 = some [.int .i64 0, .int .i64 0, .int .i64 0, .string ByteArray.empty, .slice none 0 0] := by kernel_rfl
theorem fd_46_0 : fdOf Tryd.prog 46 0 = some 0 := by kernel_rfl
theorem fd_46_1 : fdOf Tryd.prog 46 1 = some 1 := by kernel_rfl
theorem fd_46_2 : fdOf Tryd.prog 46 2 = some 2 := by kernel_rfl
theorem fd_46_3 : fdOf Tryd.prog 46 3 = some 3 := by kernel_rfl
theorem fd_46_4 : fdOf Tryd.prog 46 4 = some 4 := by kernel_rfl
theorem ty_49 : tyOf Tryd.prog 49 = some (false, 1) := by kernel_rfl
theorem ei_49 : elInfo Tryd.prog 49 = some (75, 5, 64, true) := by kernel_rfl
theorem el_49 : elOf Tryd.prog 49 = some (75, 5) := by kernel_rfl
theorem fd_63_1 : fdOf Tryd.prog 63 1 = some 1 := by kernel_rfl
theorem ty_75 : tyOf Tryd.prog 75 = some (true, 5) := by kernel_rfl
theorem zc_75 : zcs Tryd.prog 75 = some [.int .i64 0, .int .i64 0, .int .i64 0, .string ByteArray.empty, .slice none 0 0] := by kernel_rfl
theorem st_75 : stOf Tryd.prog 75 = some ([.int .i64 0, .int .i64 0, .int .i64 0, .string ByteArray.empty, .slice none 0 0], [(0, 1), (1, 1), (2, 1), (3, 1), (4, 1)]) := by kernel_rfl
theorem fd_75_0 : fdOf Tryd.prog 75 0 = some 0 := by kernel_rfl
theorem fd_75_1 : fdOf Tryd.prog 75 1 = some 1 := by kernel_rfl
theorem fd_75_2 : fdOf Tryd.prog 75 2 = some 2 := by kernel_rfl
theorem fd_75_3 : fdOf Tryd.prog 75 3 = some 3 := by kernel_rfl
theorem fd_75_4 : fdOf Tryd.prog 75 4 = some 4 := by kernel_rfl
theorem ei_76 : elInfo Tryd.prog 76 = some (80, 5, 48, true) := by kernel_rfl
theorem el_76 : elOf Tryd.prog 76 = some (80, 5) := by kernel_rfl
theorem ty_80 : tyOf Tryd.prog 80 = some (true, 5) := by kernel_rfl
theorem zc_80 : zcs Tryd.prog 80 = some [.int .i64 0, .int .i64 0, .int .i64 0, .int .i64 0, .string ByteArray.empty] := by kernel_rfl
theorem st_80 : stOf Tryd.prog 80 = some ([.int .i64 0, .int .i64 0, .int .i64 0, .int .i64 0, .string ByteArray.empty], [(0, 1), (1, 1), (2, 1), (3, 1), (4, 1)]) := by kernel_rfl
theorem fd_80_0 : fdOf Tryd.prog 80 0 = some 0 := by kernel_rfl
theorem fd_80_2 : fdOf Tryd.prog 80 2 = some 2 := by kernel_rfl
theorem fd_80_3 : fdOf Tryd.prog 80 3 = some 3 := by kernel_rfl
theorem fd_80_4 : fdOf Tryd.prog 80 4 = some 4 := by kernel_rfl
theorem ty_86 : tyOf Tryd.prog 86 = some (false, 1) := by kernel_rfl
theorem ei_86 : elInfo Tryd.prog 86 = some (108, 5, 48, true) := by kernel_rfl
theorem el_86 : elOf Tryd.prog 86 = some (108, 5) := by kernel_rfl
theorem zc_86 : zcs Tryd.prog 86 = some [.slice none 0 0] := by kernel_rfl
theorem st_88 : stOf Tryd.prog 88 = some ([.slice none 0 0, .slice none 0 0], [(0, 1), (1, 1)]) := by kernel_rfl
theorem fd_88_0 : fdOf Tryd.prog 88 0 = some 0 := by kernel_rfl
theorem fd_88_1 : fdOf Tryd.prog 88 1 = some 1 := by kernel_rfl
theorem st_104 : stOf Tryd.prog 104 = some ([.slice none 0 0, .int .i64 0], [(0, 1), (1, 1)]) := by kernel_rfl
theorem fd_104_0 : fdOf Tryd.prog 104 0 = some 0 := by kernel_rfl
theorem fd_104_1 : fdOf Tryd.prog 104 1 = some 1 := by kernel_rfl
theorem st_106 : stOf Tryd.prog 106 = some ([.slice none 0 0, .int .i64 0, .slice none 0 0, .bool false], [(0, 2), (2, 1), (3, 1)]) := by kernel_rfl
theorem fd_106_0 : fdOf Tryd.prog 106 0 = some 0 := by kernel_rfl
theorem fd_106_1 : fdOf Tryd.prog 106 1 = some 2 := by kernel_rfl
theorem fd_106_2 : fdOf Tryd.prog 106 2 = some 3 := by kernel_rfl
theorem ty_108 : tyOf Tryd.prog 108 = some (true, 5) := by kernel_rfl
theorem zc_108 : zcs Tryd.prog 108 = some [.int .i64 0, .int .i64 0, .int .i64 0, .int .i64 0, .string ByteArray.empty] := by kernel_rfl
theorem st_108 : stOf Tryd.prog 108 = some ([.int .i64 0, .int .i64 0, .int .i64 0, .int .i64 0, .string ByteArray.empty], [(0, 1), (1, 1), (2, 1), (3, 1), (4, 1)]) := by kernel_rfl
theorem fd_108_0 : fdOf Tryd.prog 108 0 = some 0 := by kernel_rfl
theorem fd_108_1 : fdOf Tryd.prog 108 1 = some 1 := by kernel_rfl
theorem fd_108_2 : fdOf Tryd.prog 108 2 = some 2 := by kernel_rfl
theorem fd_108_3 : fdOf Tryd.prog 108 3 = some 3 := by kernel_rfl
theorem fd_108_4 : fdOf Tryd.prog 108 4 = some 4 := by kernel_rfl
theorem ty_125 : tyOf Tryd.prog 125 = some (true, 2) := by kernel_rfl
theorem zc_125 : zcs Tryd.prog 125 = some [.int .i64 0, .int .i64 0] := by kernel_rfl
theorem st_125 : stOf Tryd.prog 125 = some ([.int .i64 0, .int .i64 0], [(0, 1), (1, 1)]) := by kernel_rfl
theorem fd_125_0 : fdOf Tryd.prog 125 0 = some 0 := by kernel_rfl
theorem fd_125_1 : fdOf Tryd.prog 125 1 = some 1 := by kernel_rfl
theorem st_129 : stOf Tryd.prog 129 = some ([.string ByteArray.empty, .int .i64 0], [(0, 1), (1, 1)]) := by kernel_rfl
theorem fd_129_0 : fdOf Tryd.prog 129 0 = some 0 := by kernel_rfl
theorem fd_129_1 : fdOf Tryd.prog 129 1 = some 1 := by kernel_rfl
end Go.Proofs.YtmcchhmgchgaaaaDoor

namespace Go.Proofs.YtmcchhmgchgaaaaDoor
set_option linter.unusedSimpArgs false
set_option linter.unusedVariables false
set_option maxRecDepth 100000
open Go.RowKit
@[reducible] def intV (x : Int) : HV := .imm (.int .i64 x)
@[reducible] def boolV (b : Bool) : HV := .imm (.bool b)
/-- A value that is frozen as it is. -/
class Frz (x : HV) : Prop where
  fz : ∀ {sh : List (Nat × HObj)}, Fz sh x x
instance (v : Value) : Frz (.imm v) := ⟨.imm v⟩
instance (sz n : Nat) (f : Nat → Nat → HV) [h : ∀ i j, Frz (f i j)] : Frz (.sl sz n f) := ⟨.sl _ _ _ _ fun i j _ _ => (h i j).fz⟩
instance (n : Nat) (f : Nat → HV) [h : ∀ i, Frz (f i)] : Frz (.agg n f) := ⟨.agg _ _ _ fun i _ => (h i).fz⟩
instance (n : Nat) (f : Nat → HV) [h : ∀ i, Frz (f i)] : Frz (.tup n f) := ⟨.tup _ _ _ fun i _ => (h i).fz⟩
instance (n : Nat) (f : Nat → HV) [h : ∀ i, Frz (f i)] : Frz (.fp n f) := ⟨.fp _ _ (Nat.le_refl _) _ _ fun i _ => (h i).fz⟩
theorem Fz.eq {sh : List (Nat × HObj)} {x y : HV} [h : Frz y] (e : x = y) : Fz sh x y := by subst e; exact h.fz
theorem fz_bool {sh : List (Nat × HObj)} {a b : Bool} (h : a = b) : Fz sh (boolV a) (boolV b) := by subst h; exact .imm _

/-- What an append leaves, read as one list. -/
theorem fz_cat {α : Type} {sh : List (Nat × HObj)} {enc : α → Nat → HV} {d : α} {l k : List α} {m sz : Nat} {f g : Nat → Nat → HV} (hm : m = l.length) (hf : ∀ i j, i < l.length → j < sz → Fz sh (f i j) (enc (l.getD i d) j)) (hg : ∀ i j, i < k.length → j < sz → Fz sh (g i j) (enc (k.getD i d) j)) :
    ∀ i j, i < (l ++ k).length → j < sz → Fz sh (cat m f g i j) (enc ((l ++ k).getD i d) j) := by
  intro i j hi hj
  subst hm
  rw [List.length_append] at hi
  by_cases h : i < l.length
  · rw [cat_lt h]
    have e : (l ++ k).getD i d = l.getD i d := by rw [List.getD_eq_getElem?_getD, List.getD_eq_getElem?_getD, List.getElem?_append_left h]
    rw [e]; exact hf i j h hj
  · rw [cat_ge (by omega)]
    have e : (l ++ k).getD i d = k.getD (i - l.length) d := by rw [List.getD_eq_getElem?_getD, List.getD_eq_getElem?_getD, List.getElem?_append_right (by omega)]
    rw [e]; exact hg _ j (by omega) hj
/-- A row of one's own, read as a list. -/
theorem fz_row {α : Type} {sh : List (Nat × HObj)} {enc : α → Nat → HV} {d : α} {l : List α} {id g n : Nat} {o : HObj} (ho : (id, o) ∈ sh) (hg : o.g = g) (hn : n = l.length) (hon : n ≤ o.n) (h : ∀ i j, i < l.length → j < o.sz → Fz sh (o.f i j) (enc (l.getD i d) j)) :
    Fz sh (.os id g 0 n) (.sl o.sz l.length (fun i => enc (l.getD i d))) := by
  subst hn
  exact Fz.os id g 0 l.length o _ ho hg (by omega) (fun i j hi hj => by rw [Nat.zero_add]; exact h i j hi hj)
theorem sb_cat {α : Type} {enc : α → Nat → HV} {d : α} {l k : List α} {m sz : Nat} {f g : Nat → Nat → HV} (hm : m = l.length) (hf : ∀ i j, i < l.length → j < sz → Sb (f i j) (enc (l.getD i d) j)) (hg : ∀ i j, i < k.length → j < sz → Sb (g i j) (enc (k.getD i d) j)) :
    ∀ i j, i < (l ++ k).length → j < sz → Sb (cat m f g i j) (enc ((l ++ k).getD i d) j) := by
  intro i j hi hj
  subst hm
  rw [List.length_append] at hi
  by_cases h : i < l.length
  · rw [cat_lt h]
    have e : (l ++ k).getD i d = l.getD i d := by rw [List.getD_eq_getElem?_getD, List.getD_eq_getElem?_getD, List.getElem?_append_left h]
    rw [e]; exact hf i j h hj
  · rw [cat_ge (by omega)]
    have e : (l ++ k).getD i d = k.getD (i - l.length) d := by rw [List.getD_eq_getElem?_getD, List.getD_eq_getElem?_getD, List.getElem?_append_right (by omega)]
    rw [e]; exact hg _ j (by omega) hj
theorem sb_one {α : Type} {enc : α → Nat → HV} {d x : α} {sz : Nat} {f : Nat → Nat → HV} (h : ∀ j, j < sz → Sb (f 0 j) (enc x j)) : ∀ i j, i < [x].length → j < sz → Sb (f i j) (enc ([x].getD i d) j) := fun i j hi hj => by
  have : i = 0 := by simpa using hi
  subst this
  exact h j hj
end Go.Proofs.YtmcchhmgchgaaaaDoor

namespace Go.Proofs.YtmcchhmgchgaaaaDoor
set_option linter.unusedSimpArgs false
set_option linter.unusedVariables false
open Go.RowKit

theorem pure_imm {w w' : World} {F : Addr → Prop} {u : Value} (hF : ∀ a, F a → a.spot = none ∧ (w.cell? a).isSome = true) (hb : Below w.heap.size w w') : PurePost w F (.imm u) (.returned u) w' :=
  ⟨hb, u, F, rfl, fun _ h => h, fun _ h => .inl h, fun a ha => ⟨(hF a ha).1, by rw [World.cell?_of_block (hb.block _ (lt_of_cell (hF a ha).2))]; exact (hF a ha).2⟩, .imm u⟩
theorem rep1 {w : World} {E : Env} {vs : List Value} {x : HV} (h : RepAll w E vs [x]) : ∃ v, vs = [v] ∧ Rep w E v x := by
  match vs, h with
  | [v], h => exact ⟨v, rfl, h.1⟩
theorem rep2 {w : World} {E : Env} {vs : List Value} {x y : HV} (h : RepAll w E vs [x, y]) : ∃ u v, vs = [u, v] ∧ Rep w E u x ∧ Rep w E v y := by
  match vs, h with
  | [u, v], h => exact ⟨u, v, rfl, h.1, h.2.1⟩

def allF (w : World) (a : Addr) : Prop := a.spot = none ∧ (w.cell? a).isSome = true
theorem rep_sl {α : Type} {w : World} {B : Nat} {A : Option Addr} {c : Nat} (sz : Nat) (hs : 0 < sz) (enc : α → List Value) (enc1 : ∀ x, ∀ u ∈ enc x, u.oneCell' = true) (encF : α → Nat → HV) (d : α) (l : List α) (hc : l.length ≤ c) (hm : c ≤ maxLen) (h : Sl w B sz enc A l)
    (hr : ∀ i j, i < l.length → j < sz → Rep w (Env.just (allF w)) ((enc (l.getD i d)).getD j undef) (encF (l.getD i d) j)) : Rep w (Env.just (allF w)) (.slice A l.length c) (.sl sz l.length (fun i => encF (l.getD i d))) := by
  refine .sl A l.length c sz _ (fun i j => (enc (l.getD i d)).getD j undef) hc hm (fun hn => ?_) hr
  obtain ⟨b, o, rfl, hb⟩ := h.addr hn hs
  have cell : ∀ i j, i < l.length → j < sz → w.cell? ⟨b, o + (i * sz + j), none⟩ = some ((enc (l.getD i d)).getD j undef) ∧ ((enc (l.getD i d)).getD j undef).oneCell' = true := by
    intro i j hi hj
    have := h.cell_ hi j hj
    have hg : l.getD i d = l[i] := by rw [List.getD_eq_getElem?_getD, List.getElem?_eq_getElem hi]; rfl
    have hj' : j < (enc l[i]).length := by rw [h.1]; exact hj
    have hg2 : (enc l[i]).getD j undef = (enc l[i])[j] := by rw [List.getD_eq_getElem?_getD, List.getElem?_eq_getElem hj']; rfl
    rw [hg, hg2, show o + (i * sz + j) = o + i * sz + j from by omega, this, List.getElem?_eq_getElem hj']
    exact ⟨rfl, enc1 _ _ (List.getElem_mem hj')⟩
  have hlt : b < w.heap.size := by
    have := (cell 0 0 hn hs).1
    exact World.block_lt_of_cell? w _ this
  exact ⟨b, o, rfl, hlt, fun i j hi hj => ⟨⟨rfl, by rw [(cell i j hi hj).1]; rfl⟩, (cell i j hi hj).1, (cell i j hi hj).2⟩⟩
/-- A law's call returns true. -/
theorem law_walk {P : Program} {f : FuncId} {xs : List HV} (h : HPure P f xs (boolV true)) (w : World) (vs : List Value) (hr : RepAll w (Env.just (allF w)) vs xs) (hw : LibW w) : Calls P f vs.toArray w fun e w' => e = .returned (.bool true) ∧ Below w.heap.size w w' := by
  refine (h.2 w (allF w) vs (fun a h => h) hr hw).mono ?_
  rintro e w' ⟨hb, v, F', rfl, _, _, _, hv⟩
  rw [hv.imm_inv]
  exact ⟨rfl, hb⟩
end Go.Proofs.YtmcchhmgchgaaaaDoor

namespace Go.Proofs
open Go.Shelf
def Tryd.lays169_ren : Go.Shelf.Ren := ⟨fun | 169 => 38 | n => n, fun | 70 => 61 | 9 => 9 | 0 => 0 | 72 => 63 | 37 => 27 | 127 => 96 | 3 => 3 | 5 => 5 | n => n, fun | n => n⟩
theorem Tryd.lays169 : Go.Proofs.Lays.n169 Tryd.prog Tryd.lays169_ren := {
  mixed := by kernel_rfl
  f169 := Tryd.func38.trans (congrArg some (by kernel_rfl))
  t0 := Tryd.underlying0
  a0 := Tryd.isAgg0
  z0 := Tryd.sizeOf0
  v0 := Tryd.zeroValue0
  t3 := Tryd.underlying3
  a3 := Tryd.isAgg3
  z3 := Tryd.sizeOf3
  v3 := Tryd.zeroValue3
  t9 := Tryd.underlying9
  a9 := Tryd.isAgg9
  z9 := Tryd.sizeOf9
  v9 := Tryd.zeroValue9
  t37 := Tryd.underlying27
  a37 := Tryd.isAgg27
  z37 := Tryd.sizeOf27
  v37 := Tryd.zeroValue27
  t70 := Tryd.underlying61
  a70 := Tryd.isAgg61
  z70 := Tryd.sizeOf61
  v70 := Tryd.zeroValue61
  t72 := Tryd.underlying63
  a72 := Tryd.isAgg63
  z72 := Tryd.sizeOf63
  v72 := Tryd.zeroValue63
  t127 := Tryd.underlying96
  a127 := Tryd.isAgg96
  z127 := Tryd.sizeOf96
  v127 := Tryd.zeroValue96 }
theorem Tryd.Builder_Extra_169 : Builder.Extra Tryd.prog Tryd.lays169_ren := {
  sizeBuilder := by kernel_rfl
  liesBuilder := by kernel_rfl
  t5 := Tryd.underlying5
  a5 := Tryd.isAgg5
  z5 := Tryd.sizeOf5
  v5 := Tryd.zeroValue5
  infoByte := by kernel_rfl
  cellsByte := by kernel_rfl
  sizeByte := by kernel_rfl
  neB5 := by decide }
open Go.RowKit in
theorem Tryd.Builder_String_any (B b : Nat) (l : List UInt8) (w : World) (h : Lib.IsBuilder 63 5 B b (Lib.byteCells l) w) (hBw : B ≤ w.heap.size) :
    Calls Tryd.prog 38 #[.pointer (some ⟨b, 0, none⟩)] w fun e w' => e = .returned (.string ⟨l.toArray⟩) ∧ Below B w w' := Any.Builder_String_any Tryd.lays169 Tryd.Builder_Extra_169 B b l w h hBw
def Tryd.laysM171_ren : Go.Shelf.Ren := ⟨fun | 171 => 33 | 243 => 59 | 246 => 77 | 283 => 99 | 284 => 100 | 285 => 101 | 286 => 102 | 129 => 119 | 317 => 118 | 318 => 120 | 319 => 121 | 320 => 122 | 337 => 129 | 338 => 130 | n => n, fun | 3 => 3 | 9 => 9 | 2 => 2 | 4 => 4 | 171 => 140 | 0 => 0 | 53 => 59 | 37 => 27 | 5 => 5 | 173 => 143 | 212 => 161 | 51 => 162 | 20 => 20 | 213 => 163 | 46 => 67 | 232 => 173 | 233 => 174 | n => n, fun | 17 => 2 | 18 => 6 | 19 => 7 | n => n⟩
theorem Tryd.laysM171 : Go.Proofs.LaysM.n171 Tryd.prog Tryd.laysM171_ren := {
  mixed := by kernel_rfl
  f129 := Tryd.func119.trans (congrArg some (by kernel_rfl))
  f171 := Tryd.func33.trans (congrArg some (by kernel_rfl))
  f243 := Tryd.func59.trans (congrArg some (by kernel_rfl))
  f246 := Tryd.func77.trans (congrArg some (by kernel_rfl))
  f283 := Tryd.func99.trans (congrArg some (by kernel_rfl))
  f284 := Tryd.func100.trans (congrArg some (by kernel_rfl))
  f285 := Tryd.func101.trans (congrArg some (by kernel_rfl))
  f286 := Tryd.func102.trans (congrArg some (by kernel_rfl))
  f317 := Tryd.func118.trans (congrArg some (by kernel_rfl))
  f318 := Tryd.func120.trans (congrArg some (by kernel_rfl))
  f319 := Tryd.func121.trans (congrArg some (by kernel_rfl))
  f320 := Tryd.func122.trans (congrArg some (by kernel_rfl))
  f337 := Tryd.func129.trans (congrArg some (by kernel_rfl))
  f338 := Tryd.func130.trans (congrArg some (by kernel_rfl))
  t0 := Tryd.underlying0
  a0 := Tryd.isAgg0
  z0 := Tryd.sizeOf0
  v0 := Tryd.zeroValue0
  t2 := Tryd.underlying2
  a2 := Tryd.isAgg2
  z2 := Tryd.sizeOf2
  v2 := Tryd.zeroValue2
  t3 := Tryd.underlying3
  a3 := Tryd.isAgg3
  z3 := Tryd.sizeOf3
  v3 := Tryd.zeroValue3
  t4 := Tryd.underlying4
  a4 := Tryd.isAgg4
  z4 := Tryd.sizeOf4
  v4 := Tryd.zeroValue4
  t5 := Tryd.underlying5
  a5 := Tryd.isAgg5
  z5 := Tryd.sizeOf5
  v5 := Tryd.zeroValue5
  t9 := Tryd.underlying9
  a9 := Tryd.isAgg9
  z9 := Tryd.sizeOf9
  v9 := Tryd.zeroValue9
  t20 := Tryd.underlying20
  a20 := Tryd.isAgg20
  z20 := Tryd.sizeOf20
  v20 := Tryd.zeroValue20
  t37 := Tryd.underlying27
  a37 := Tryd.isAgg27
  z37 := Tryd.sizeOf27
  v37 := Tryd.zeroValue27
  t46 := Tryd.underlying67
  a46 := Tryd.isAgg67
  z46 := Tryd.sizeOf67
  v46 := Tryd.zeroValue67
  t51 := Tryd.underlying162
  a51 := Tryd.isAgg162
  z51 := Tryd.sizeOf162
  v51 := Tryd.zeroValue162
  t53 := Tryd.underlying59
  a53 := Tryd.isAgg59
  z53 := Tryd.sizeOf59
  v53 := Tryd.zeroValue59
  t171 := Tryd.underlying140
  a171 := Tryd.isAgg140
  z171 := Tryd.sizeOf140
  v171 := Tryd.zeroValue140
  t173 := Tryd.underlying143
  a173 := Tryd.isAgg143
  z173 := Tryd.sizeOf143
  v173 := Tryd.zeroValue143
  t212 := Tryd.underlying161
  a212 := Tryd.isAgg161
  z212 := Tryd.sizeOf161
  v212 := Tryd.zeroValue161
  t213 := Tryd.underlying163
  a213 := Tryd.isAgg163
  z213 := Tryd.sizeOf163
  t232 := Tryd.underlying173
  a232 := Tryd.isAgg173
  z232 := Tryd.sizeOf173
  v232 := Tryd.zeroValue173
  t233 := Tryd.underlying174
  a233 := Tryd.isAgg174
  z233 := Tryd.sizeOf174
  v233 := Tryd.zeroValue174
  g17 := by kernel_rfl
  g18 := by kernel_rfl
  g19 := by kernel_rfl
  i0 := by kernel_rfl
  i2 := by kernel_rfl
  i3 := by kernel_rfl
  i4 := by kernel_rfl
  i5 := by kernel_rfl
  i9 := by kernel_rfl
  i20 := by kernel_rfl
  i37 := by kernel_rfl
  i46 := by kernel_rfl
  i51 := by kernel_rfl
  i53 := by kernel_rfl
  i171 := by kernel_rfl
  i173 := by kernel_rfl
  i212 := by kernel_rfl
  i232 := by kernel_rfl
  i233 := by kernel_rfl
  m17 := by kernel_rfl
  m18 := by kernel_rfl
  m19 := by kernel_rfl }
open Go.RowKit Go.Sort Go.Lib in
theorem Tryd.strconv_Itoa (n : Int) (h0 : -9223372036854775808 ≤ n) (h1 : n ≤ 9223372036854775807) (w : World) (htab : Lib.TabIs Tryd.prog w "internal/strconv.uint64pow10" .u64 Lib.pow10Tab) :
    Calls Tryd.prog 33 #[.int .i64 n] w fun e w' => e = .returned (.string ⟨(Lib.itoa n).toArray⟩) ∧ ∃ k os, w' = grow (w.drewN k) os := Any.strconv_Itoa Tryd.laysM171 n h0 h1 w htab
def Tryd.laysC172_ren : Go.Shelf.Ren := ⟨fun | 172 => 32 | 244 => 57 | 245 => 58 | 247 => 72 | 279 => 73 | 280 => 74 | 281 => 75 | 282 => 76 | 287 => 96 | 316 => 97 | 171 => 33 | 205 => 98 | 321 => 116 | 322 => 117 | 243 => 59 | 246 => 77 | 283 => 99 | 284 => 100 | 285 => 101 | 286 => 102 | 129 => 119 | 317 => 118 | 318 => 120 | 319 => 121 | 320 => 122 | 337 => 129 | 338 => 130 | n => n, fun | 9 => 9 | 3 => 3 | 75 => 56 | 76 => 57 | 4 => 4 | 5 => 5 | 167 => 113 | 37 => 27 | 0 => 0 | 85 => 114 | 2 => 2 | 168 => 116 | 53 => 59 | 175 => 134 | 46 => 67 | 210 => 138 | 127 => 96 | 145 => 158 | 143 => 156 | 21 => 21 | 171 => 140 | 173 => 143 | 212 => 161 | 51 => 162 | 20 => 20 | 213 => 163 | 232 => 173 | 233 => 174 | 80 => 68 | n => n, fun | 15 => 0 | 16 => 1 | 17 => 2 | 18 => 6 | 19 => 7 | n => n⟩
theorem Tryd.laysC172 : Go.Proofs.LaysC.n172 Tryd.prog Tryd.laysC172_ren := {
  mixed := by kernel_rfl
  f129 := Tryd.func119.trans (congrArg some (by kernel_rfl))
  f171 := Tryd.func33.trans (congrArg some (by kernel_rfl))
  f172 := Tryd.func32.trans (congrArg some (by kernel_rfl))
  f205 := Tryd.func98.trans (congrArg some (by kernel_rfl))
  f243 := Tryd.func59.trans (congrArg some (by kernel_rfl))
  f244 := Tryd.func57.trans (congrArg some (by kernel_rfl))
  f245 := Tryd.func58.trans (congrArg some (by kernel_rfl))
  f246 := Tryd.func77.trans (congrArg some (by kernel_rfl))
  f247 := Tryd.func72.trans (congrArg some (by kernel_rfl))
  f279 := Tryd.func73.trans (congrArg some (by kernel_rfl))
  f280 := Tryd.func74.trans (congrArg some (by kernel_rfl))
  f281 := Tryd.func75.trans (congrArg some (by kernel_rfl))
  f282 := Tryd.func76.trans (congrArg some (by kernel_rfl))
  f283 := Tryd.func99.trans (congrArg some (by kernel_rfl))
  f284 := Tryd.func100.trans (congrArg some (by kernel_rfl))
  f285 := Tryd.func101.trans (congrArg some (by kernel_rfl))
  f286 := Tryd.func102.trans (congrArg some (by kernel_rfl))
  f287 := Tryd.func96.trans (congrArg some (by kernel_rfl))
  f316 := Tryd.func97.trans (congrArg some (by kernel_rfl))
  f317 := Tryd.func118.trans (congrArg some (by kernel_rfl))
  f318 := Tryd.func120.trans (congrArg some (by kernel_rfl))
  f319 := Tryd.func121.trans (congrArg some (by kernel_rfl))
  f320 := Tryd.func122.trans (congrArg some (by kernel_rfl))
  f321 := Tryd.func116.trans (congrArg some (by kernel_rfl))
  f322 := Tryd.func117.trans (congrArg some (by kernel_rfl))
  f337 := Tryd.func129.trans (congrArg some (by kernel_rfl))
  f338 := Tryd.func130.trans (congrArg some (by kernel_rfl))
  t0 := Tryd.underlying0
  a0 := Tryd.isAgg0
  z0 := Tryd.sizeOf0
  v0 := Tryd.zeroValue0
  t2 := Tryd.underlying2
  a2 := Tryd.isAgg2
  z2 := Tryd.sizeOf2
  v2 := Tryd.zeroValue2
  t3 := Tryd.underlying3
  a3 := Tryd.isAgg3
  z3 := Tryd.sizeOf3
  v3 := Tryd.zeroValue3
  t4 := Tryd.underlying4
  a4 := Tryd.isAgg4
  z4 := Tryd.sizeOf4
  v4 := Tryd.zeroValue4
  t5 := Tryd.underlying5
  a5 := Tryd.isAgg5
  z5 := Tryd.sizeOf5
  v5 := Tryd.zeroValue5
  t9 := Tryd.underlying9
  a9 := Tryd.isAgg9
  z9 := Tryd.sizeOf9
  v9 := Tryd.zeroValue9
  t20 := Tryd.underlying20
  a20 := Tryd.isAgg20
  z20 := Tryd.sizeOf20
  v20 := Tryd.zeroValue20
  t21 := Tryd.underlying21
  a21 := Tryd.isAgg21
  z21 := Tryd.sizeOf21
  v21 := Tryd.zeroValue21
  t37 := Tryd.underlying27
  a37 := Tryd.isAgg27
  z37 := Tryd.sizeOf27
  v37 := Tryd.zeroValue27
  t46 := Tryd.underlying67
  a46 := Tryd.isAgg67
  z46 := Tryd.sizeOf67
  v46 := Tryd.zeroValue67
  t51 := Tryd.underlying162
  a51 := Tryd.isAgg162
  z51 := Tryd.sizeOf162
  v51 := Tryd.zeroValue162
  t53 := Tryd.underlying59
  a53 := Tryd.isAgg59
  z53 := Tryd.sizeOf59
  v53 := Tryd.zeroValue59
  t75 := Tryd.underlying56
  a75 := Tryd.isAgg56
  z75 := Tryd.sizeOf56
  v75 := Tryd.zeroValue56
  t76 := Tryd.underlying57
  a76 := Tryd.isAgg57
  z76 := Tryd.sizeOf57
  v76 := Tryd.zeroValue57
  t85 := Tryd.underlying114
  a85 := Tryd.isAgg114
  z85 := Tryd.sizeOf114
  v85 := Tryd.zeroValue114
  t127 := Tryd.underlying96
  a127 := Tryd.isAgg96
  z127 := Tryd.sizeOf96
  v127 := Tryd.zeroValue96
  t143 := Tryd.underlying156
  a143 := Tryd.isAgg156
  z143 := Tryd.sizeOf156
  v143 := Tryd.zeroValue156
  t145 := Tryd.underlying158
  a145 := Tryd.isAgg158
  z145 := Tryd.sizeOf158
  v145 := Tryd.zeroValue158
  t167 := Tryd.underlying113
  a167 := Tryd.isAgg113
  z167 := Tryd.sizeOf113
  v167 := Tryd.zeroValue113
  t168 := Tryd.underlying116
  a168 := Tryd.isAgg116
  z168 := Tryd.sizeOf116
  v168 := Tryd.zeroValue116
  t171 := Tryd.underlying140
  a171 := Tryd.isAgg140
  z171 := Tryd.sizeOf140
  v171 := Tryd.zeroValue140
  t173 := Tryd.underlying143
  a173 := Tryd.isAgg143
  z173 := Tryd.sizeOf143
  v173 := Tryd.zeroValue143
  t175 := Tryd.underlying134
  a175 := Tryd.isAgg134
  z175 := Tryd.sizeOf134
  v175 := Tryd.zeroValue134
  t210 := Tryd.underlying138
  a210 := Tryd.isAgg138
  z210 := Tryd.sizeOf138
  v210 := Tryd.zeroValue138
  t212 := Tryd.underlying161
  a212 := Tryd.isAgg161
  z212 := Tryd.sizeOf161
  v212 := Tryd.zeroValue161
  t213 := Tryd.underlying163
  a213 := Tryd.isAgg163
  z213 := Tryd.sizeOf163
  t232 := Tryd.underlying173
  a232 := Tryd.isAgg173
  z232 := Tryd.sizeOf173
  v232 := Tryd.zeroValue173
  t233 := Tryd.underlying174
  a233 := Tryd.isAgg174
  z233 := Tryd.sizeOf174
  v233 := Tryd.zeroValue174
  g15 := by kernel_rfl
  g16 := by kernel_rfl
  g17 := by kernel_rfl
  g18 := by kernel_rfl
  g19 := by kernel_rfl
  t80 := Tryd.underlying68
  a80 := Tryd.isAgg68
  z80 := Tryd.sizeOf68
  v80 := Tryd.zeroValue68
  i0 := by kernel_rfl
  i2 := by kernel_rfl
  i3 := by kernel_rfl
  i4 := by kernel_rfl
  i5 := by kernel_rfl
  i9 := by kernel_rfl
  i20 := by kernel_rfl
  i21 := by kernel_rfl
  i37 := by kernel_rfl
  i46 := by kernel_rfl
  i51 := by kernel_rfl
  i53 := by kernel_rfl
  i75 := by kernel_rfl
  i76 := by kernel_rfl
  i80 := by kernel_rfl
  i85 := by kernel_rfl
  i127 := by kernel_rfl
  i143 := by kernel_rfl
  i145 := by kernel_rfl
  i167 := by kernel_rfl
  i168 := by kernel_rfl
  i171 := by kernel_rfl
  i173 := by kernel_rfl
  i175 := by kernel_rfl
  i210 := by kernel_rfl
  i212 := by kernel_rfl
  i232 := by kernel_rfl
  i233 := by kernel_rfl
  m15 := by kernel_rfl
  m16 := by kernel_rfl
  m17 := by kernel_rfl
  m18 := by kernel_rfl
  m19 := by kernel_rfl
  c0 := by kernel_rfl
  c2 := by kernel_rfl
  c3 := by kernel_rfl
  c4 := by kernel_rfl
  c5 := by kernel_rfl
  c9 := by kernel_rfl
  c20 := by kernel_rfl
  c21 := by kernel_rfl
  c37 := by kernel_rfl
  c46 := by kernel_rfl
  c51 := by kernel_rfl
  c53 := by kernel_rfl
  c75 := by kernel_rfl
  c76 := by kernel_rfl
  c80 := by kernel_rfl
  c85 := by kernel_rfl
  c127 := by kernel_rfl
  c143 := by kernel_rfl
  c145 := by kernel_rfl
  c167 := by kernel_rfl
  c168 := by kernel_rfl
  c171 := by kernel_rfl
  c173 := by kernel_rfl
  c175 := by kernel_rfl
  c210 := by kernel_rfl
  c212 := by kernel_rfl
  c213 := by kernel_rfl
  c232 := by kernel_rfl
  c233 := by kernel_rfl }
open Go.RowKit in
theorem Tryd.strconv_Atoi_ok (s : ByteArray) (hmax : s.size ≤ 9223372036854775806) (v : Int) (h : Lib.atoiAll s.data.toList = .ok v) (w : World) :
    Calls Tryd.prog 32 #[.string s] w fun e w' => e = .returned (.tuple #[.int .i64 v, .nilIface]) ∧ (w' = w ∨ ∃ t, w' = Lib.bytesWorld w 5 t) := Any.strconv_Atoi_ok Tryd.laysC172 s hmax v h w
end Go.Proofs

namespace Go.Proofs.YtmcchhmgchgaaaaDoor
set_option linter.unusedSimpArgs false
set_option linter.unusedVariables false
open Go.Lib Go.RowKit

theorem dec_step (u : Nat) (h : ¬ u < 10) : decDigits u = decDigits (u / 10) ++ [UInt8.ofNat (48 + u % 10)] := by rw [decDigits, dif_neg h]
theorem dec_small (u : Nat) (h : u < 10) : decDigits u = [UInt8.ofNat (48 + u)] := by rw [decDigits, dif_pos h]
theorem dig_toNat (d : Nat) (h : d < 10) : (UInt8.ofNat (48 + d)).toNat = 48 + d := by
  rw [UInt8.toNat_ofNat']; omega
theorem dec_len (k : Nat) : ∀ u, u < 10 ^ (k + 1) → (decDigits u).length ≤ k + 1 := by
  induction k with
  | zero => intro u h; rw [dec_small u (by simpa using h)]; simp
  | succ k ih =>
    intro u h
    by_cases h0 : u < 10
    · rw [dec_small u h0]; simp
    · rw [dec_step u h0, List.length_append]
      have := ih (u / 10) (by rw [Nat.pow_succ] at h; omega)
      simp only [List.length_singleton]; omega

/-- How far the document's digits are. -/
def digInv (x0 x k : Nat) (l : List UInt8) : Prop := (k = 0 ∧ x = x0 ∧ l = []) ∨ (0 < k ∧ x = 0 ∧ l = decDigits x0) ∨ (0 < k ∧ 0 < x ∧ decDigits x ++ l = decDigits x0)
def digLeft (x : Nat) : Nat := if x = 0 then 0 else (decDigits x).length
theorem digLeft_step (x : Nat) (h : 0 < x) : digLeft (x / 10) + 1 = digLeft x := by
  unfold digLeft
  by_cases h1 : x < 10
  · rw [if_pos (by omega), if_neg (by omega), dec_small x h1]; rfl
  · rw [if_neg (by omega), if_neg (by omega), dec_step x h1, List.length_append]; rfl
theorem digInv_step {x0 x k : Nat} {l : List UInt8} (h : digInv x0 x k l) (hk : k = 0 ∨ 0 < x) : digInv x0 (x / 10) (k + 1) (UInt8.ofNat (48 + x % 10) :: l) := by
  have key : decDigits x ++ l = decDigits x0 → digInv x0 (x / 10) (k + 1) (UInt8.ofNat (48 + x % 10) :: l) := by
    intro e
    by_cases h1 : x < 10
    · rw [dec_small x h1] at e
      refine .inr (.inl ⟨by omega, by omega, ?_⟩)
      rw [Nat.mod_eq_of_lt h1]; exact e
    · rw [dec_step x h1] at e
      refine .inr (.inr ⟨by omega, by omega, ?_⟩)
      rw [← e]; simp
  rcases h with ⟨_, h1, h2⟩ | ⟨h1, h2, h3⟩ | ⟨h1, h2, h3⟩
  · subst h1; subst h2; exact key (by simp)
  · omega
  · exact key h3
theorem digInv_end {x0 x k : Nat} {l : List UInt8} (h : digInv x0 x k l) (hk : ¬ (k = 0 ∨ 0 < x)) : l = decDigits x0 := by
  rcases h with ⟨h1, _, _⟩ | ⟨_, _, h3⟩ | ⟨_, h2, _⟩
  · omega
  · exact h3
  · omega
theorem digLeft_le {x : Nat} (h : x < 18446744073709551616) : digLeft x ≤ 20 := by
  unfold digLeft; split
  · omega
  · exact dec_len 19 x (by omega)
end Go.Proofs.YtmcchhmgchgaaaaDoor

namespace Go.Proofs.YtmcchhmgchgaaaaDoor
set_option linter.unusedSimpArgs false
set_option linter.unusedVariables false
open Go.RowKit
open Go.Lib hiding intOf

theorem var_below {P : Program} {w w' : World} {name : String} {x : Array Value} (h : w.var? P name = some x) (b : Below w.heap.size w w') : w'.var? P name = some x := by
  unfold World.var? at *
  cases hg : P.globalNamed name with
  | none => rw [hg] at h; cases h
  | some g =>
    rw [hg] at h
    simp only [Option.bind_some] at h ⊢
    cases hh : w.heap[g]? with
    | none => rw [hh] at h; cases h
    | some o =>
      have hlt : g < w.heap.size := by
        rcases Nat.lt_or_ge g w.heap.size with h1 | h1
        · exact h1
        · rw [Array.getElem?_eq_none h1] at hh; cases hh
      rw [b.block g hlt]
      exact h
/-- What the library's variables hold. -/
structure LibAt (w : World) : Prop where
  tab : Lib.TabIs Tryd.prog w "internal/strconv.uint64pow10" .u64 Lib.pow10Tab
  syn : ∃ tp p, w.var? Tryd.prog "strconv.ErrSyntax" = some #[.iface tp p]
  rng : ∃ tp p, w.var? Tryd.prog "strconv.ErrRange" = some #[.iface tp p]
theorem LibAt.below {w w' : World} (h : LibAt w) (b : Below w.heap.size w w') : LibAt w' :=
  ⟨var_below h.tab b, h.syn.imp fun _ h => h.imp fun _ h => var_below h b, h.rng.imp fun _ h => h.imp fun _ h => var_below h b⟩

theorem itoa_w (n : Int) (h0 : -9223372036854775808 ≤ n) (h1 : n ≤ 9223372036854775807) (w : World) (hw : LibAt w) :
    Calls Tryd.prog 33 #[.int .i64 n] w fun e w' => e = .returned (.string ⟨(itoa n).toArray⟩) ∧ Below w.heap.size w w' := by
  refine (Tryd.strconv_Itoa n h0 h1 w hw.tab).mono ?_
  rintro e w' ⟨rfl, k, os, rfl⟩
  refine ⟨rfl, rfl, rfl, rfl, by show w.heap.size ≤ (w.heap ++ os).size; rw [Array.size_append]; omega, fun j hj => ?_⟩
  show (w.heap ++ os)[j]? = w.heap[j]?
  rw [Array.getElem?_append_left hj]
theorem below_ok {w W : World} {t : Nat} (h : W = w ∨ ∃ s, W = Lib.bytesWorld w t s) : Below w.heap.size w W := by
  rcases h with rfl | ⟨s, rfl⟩
  · exact Below.refl _ _
  · exact Lib.bytesWorld_below _ _ _
theorem conv_one (wr : World) (b : UInt8) (i : Int) (hi : i = (b.toNat : Int)) : Sem.run Tryd.prog (convert 27 9 (Value.slice (some ⟨wr.heap.size, 0, none⟩) 1 1)) (wr.alloc (Obj.cells #[Value.int IntKind.u8 i] 5)) = .ok (.string ⟨#[b]⟩) (wr.alloc (Obj.cells #[Value.int IntKind.u8 i] 5)) := by
  subst hi
  exact run_convert_bytes_back _ 27 9 5 ⟨wr.heap.size, 0, none⟩ 1 [b] Tryd.underlying27 Tryd.underlying5 Tryd.underlying9 (fun j hj => by
    have : j = 0 := by simpa using hj
    subst this
    show (wr.alloc _).cell? ⟨wr.heap.size, 0 + 0, none⟩ = _
    rw [World.cell?_alloc_mark]; rfl)
set_option maxRecDepth 100000 in
theorem digits_w (x0 : Nat) (hx : x0 < 18446744073709551616) (w : World) :
    Calls Tryd.prog 34 #[.int .u64 x0] w fun e w' => e = .returned (.string ⟨(decDigits x0).toArray⟩) ∧ Below w.heap.size w w' := by
  go_enter Tryd.func34, Tryd.ntmps34
  go_wp2
  go_loopw [0, 3, 4] (fun xv sv iv wr => ∃ x k l, xv = .int .u64 (x : Nat) ∧ sv = .string ⟨(l : List UInt8).toArray⟩ ∧ iv = .int .i64 (k : Nat) ∧ digInv x0 x k l ∧ x < 18446744073709551616 ∧ k + digLeft x ≤ 21 ∧ l.length = k ∧ Below w.heap.size w wr) (fun xv _ iv _ => 2 * (intOf xv).toNat + (1 - (intOf iv).toNat))
  case atStart => exact ⟨x0, 0, [], rfl, rfl, rfl, .inl ⟨rfl, rfl, rfl⟩, hx, by have := digLeft_le hx; omega, rfl, Below.refl _ _⟩
  case round =>
    obtain ⟨x, k, l, rfl, rfl, rfl, hI, hx1, hk, hl, hb⟩ := hrel
    by_cases hgo : k = 0 ∨ 0 < x
    · have hI2 := digInv_step hI hgo
      have hL : digLeft (x / 10) + (k + 1) ≤ 21 := by
        rcases Nat.eq_zero_or_pos x with h0 | h0
        · subst h0; simp [digLeft] at *; omega
        · have := digLeft_step x h0; omega
      obtain ⟨a, ha⟩ : ∃ a : Int, (x : Int) = a := ⟨_, rfl⟩
      have w1 : IntKind.u64.wrap (48 + a % 10) = 48 + a % 10 := by rw [IntKind.wrap_u64]; omega
      have w2 : IntKind.u8.wrap (48 + a % 10) = 48 + a % 10 := by rw [IntKind.wrap_u8]; omega
      have hnl : ¬ 9223372036854775807 < 1 + l.length := by omega
      have a0 : 0 ≤ a := by omega
      have hcv := conv_one wr (UInt8.ofNat (48 + x % 10)) (48 + a % 10) (by rw [dig_toNat _ (Nat.mod_lt x (by omega))]; omega)
      obtain ⟨c, hc⟩ : ∃ c, UInt8.ofNat (48 + x % 10) = c := ⟨_, rfl⟩
      rw [hc] at hcv hI2
      have H := Lib.hid (And.intro hI2 (And.intro hL (And.intro ha (And.intro hx1 (And.intro hk (And.intro hl hb))))))
      have hfin : ∀ (i j : Int), i = (k : Int) + 1 → j = (k : Int) → (∃ x k l_1, Value.int IntKind.u64 (IntKind.u64.wrap (a.tdiv 10)) = Value.int IntKind.u64 ((x : Nat) : Int) ∧ Value.string ({ data := #[c] } ++ { data := l.toArray }) = Value.string { data := (l_1 : List UInt8).toArray } ∧ Value.int IntKind.i64 i = Value.int IntKind.i64 ((k : Nat) : Int) ∧ digInv x0 x k l_1 ∧ x < 18446744073709551616 ∧ k + digLeft x ≤ 21 ∧ l_1.length = k ∧ Below w.heap.size w (wr.alloc (Obj.cells #[Value.int IntKind.u8 (48 + a % 10)] 5))) ∧ 2 * (RowKit.intOf (Value.int IntKind.u64 (IntKind.u64.wrap (a.tdiv 10)))).toNat + (1 - (RowKit.intOf (Value.int IntKind.i64 i)).toNat) < 2 * (RowKit.intOf (Value.int IntKind.u64 a)).toNat + (1 - (RowKit.intOf (Value.int IntKind.i64 j)).toNat) := by
        rintro i j rfl rfl
        have e1 : IntKind.u64.wrap (a.tdiv 10) = ((x / 10 : Nat) : Int) := by rw [Int.tdiv_eq_ediv_of_nonneg a0, IntKind.wrap_u64]; omega
        rw [e1]
        refine ⟨⟨x / 10, k + 1, c :: l, rfl, ?_, by simp, hI2, by omega, by omega, by simp; omega, hb.alloc hb.size _⟩, ?_⟩
        · have : (⟨#[c]⟩ ++ ⟨l.toArray⟩ : ByteArray).data = (c :: l).toArray := by
            apply Array.ext'
            rw [ByteArray.data_append, Array.toList_append]
            simp
          exact congrArg Value.string (by
            have h2 : (⟨#[c]⟩ ++ ⟨l.toArray⟩ : ByteArray) = ⟨(⟨#[c]⟩ ++ ⟨l.toArray⟩ : ByteArray).data⟩ := rfl
            rw [h2, this])
        · simp only [RowKit.intOf]; omega
      rw [ha]
      rcases Nat.eq_zero_or_pos k with h0 | h0
      · have HF := Lib.hid hfin
        clear hI2 hL hx1 hk hl hgo hI hx ha hc hfin
        subst h0
        go_wp2
        exact HF.out _ _ rfl rfl
      · have hx0 : 0 < a := by omega
        have hk0 : decide ((k : Int) = 0) = false := by simp; omega
        have hk1 : IntKind.i64.wrap ((k : Int) + 1) = (k : Int) + 1 := by rw [IntKind.wrap_i64]; omega
        have HF := Lib.hid hfin
        clear hI2 hL hx1 hk hl hgo hI hx ha hc hfin
        go_wp2
        exact HF.out _ _ rfl rfl
    · have hl2 := digInv_end hI hgo
      have h0 : x = 0 := by omega
      have hk1 : 0 < k := by omega
      have hk2 : ¬ k = 0 := by omega
      subst h0
      subst hl2
      clear hI hk hx hx1 hgo
      go_wp2
      go_ret
      exact ⟨rfl, hb⟩
end Go.Proofs.YtmcchhmgchgaaaaDoor

namespace Go.Proofs.YtmcchhmgchgaaaaDoor
set_option linter.unusedSimpArgs false
set_option linter.unusedVariables false

/-- The byte at a place; 0: there is none. -/
def bz (s : List UInt8) (i : Nat) : Int := if i < s.length then ((s.getD i 0).toNat : Int) else 0
def smallZ (x : Int) : Bool := decide (97 ≤ x) && decide (x ≤ 122)
def digitZ (x : Int) : Bool := decide (48 ≤ x) && decide (x ≤ 57)
theorem bz_in {s : List UInt8} {i : Nat} (h : i < s.length) : bz s i = ((s.getD i 0).toNat : Int) := by unfold bz; rw [if_pos h]
theorem bz_out {s : List UInt8} {i : Nat} (h : s.length ≤ i) : bz s i = 0 := by unfold bz; rw [if_neg (by omega)]
theorem bz_lt {s : List UInt8} {i : Nat} (h : bz s i ≠ 0) : i < s.length := by
  rcases Nat.lt_or_ge i s.length with h1 | h1
  · exact h1
  · exact absurd (bz_out h1) h
theorem digit_iff {x : Int} : digitZ x = true ↔ 48 ≤ x ∧ x ≤ 57 := by simp [digitZ]
theorem small_iff {x : Int} : smallZ x = true ↔ 97 ≤ x ∧ x ≤ 122 := by simp [smallZ]
theorem digit_lt {s : List UInt8} {i : Nat} (h : digitZ (bz s i) = true) : i < s.length := bz_lt (by have := digit_iff.1 h; omega)
theorem small_lt {s : List UInt8} {i : Nat} (h : smallZ (bz s i) = true) : i < s.length := bz_lt (by have := small_iff.1 h; omega)

/-- A number at a place, and the place behind it; or the place of what is wrong. -/
def numL (s : List UInt8) (i : Nat) : Option Int × Nat :=
  if digitZ (bz s i) = true then
    if digitZ (bz s (i + 1)) = true then
      if bz s i = 48 then (none, i + 1)
      else if digitZ (bz s (i + 2)) = true then (none, i + 2)
      else (some (10 * (bz s i - 48) + (bz s (i + 1) - 48)), i + 2)
    else (some (bz s i - 48), i + 1)
  else (none, i)
/-- What is wrong at a place. -/
def wrongV (s : List UInt8) (p : Nat) : Int × Int := if s.length ≤ p then ((s.length : Int), 5) else ((p : Int), 2)
theorem wrong_in {s : List UInt8} {p : Nat} (h : p < s.length) : wrongV s p = ((p : Int), 2) := by unfold wrongV; rw [if_neg (by omega)]
def numR (s : List UInt8) (i : Nat) (low : Int) : Except (Int × Int) (Int × Nat) :=
  match numL s i with
  | (none, p) => .error (wrongV s p)
  | (some n, q) => if n < low ∨ 20 < n then .error ((i : Int), 3) else .ok (n, q)
structure Sg where
  kind : Int
  at_ : Int
  low : Int
  high : Int
  name : List UInt8
  deriving DecidableEq
def countR (s : List UInt8) (i : Nat) : Except (Int × Int) (Sg × Nat) :=
  match numR s (i + 1) 0 with
  | .error e => .error e
  | .ok (n, p) =>
    if bz s p = 44 then
      if bz s (p + 1) = 125 then .ok (⟨5, i, n, -1, []⟩, p + 2)
      else match numR s (p + 1) (if 1 > n then 1 else n) with
        | .error e => .error e
        | .ok (m, q) => if bz s q = 125 then .ok (⟨5, i, n, m, []⟩, q + 1) else .error (wrongV s q)
    else if bz s p = 125 then (if n = 0 then .error (((i + 1 : Nat) : Int), 3) else .ok (⟨5, i, n, n, []⟩, p + 1))
    else .error (wrongV s p)
def alnumZ (x : Int) : Bool := smallZ x || digitZ x
/-- How many letters and digits stand at a place: up to f. -/
def runL (s : List UInt8) (i : Nat) : Nat → Nat
  | 0 => 0
  | f + 1 => if alnumZ (bz s i) = true then runL s (i + 1) f + 1 else 0
def nameR (s : List UInt8) (i : Nat) : Except (Int × Int) (Sg × Nat) :=
  if runL s i 13 = 13 then .error (((i + 12 : Nat) : Int), 2) else .ok (⟨1, i, 0, 0, (s.drop i).take (runL s i 13)⟩, i + runL s i 13)
def oneR (s : List UInt8) (i : Nat) : Except (Int × Int) (Sg × Nat) :=
  if smallZ (bz s i) = true then nameR s i
  else if bz s i = 123 then countR s i
  else if bz s i = 40 then .ok (⟨2, i, 0, 0, []⟩, i + 1)
  else if bz s i = 41 then .ok (⟨3, i, 0, 0, []⟩, i + 1)
  else if bz s i = 124 then .ok (⟨4, i, 0, 0, []⟩, i + 1)
  else if bz s i = 42 then .ok (⟨5, i, 0, -1, []⟩, i + 1)
  else if bz s i = 43 then .ok (⟨5, i, 1, -1, []⟩, i + 1)
  else if bz s i = 63 then .ok (⟨5, i, 0, 1, []⟩, i + 1)
  else .error (wrongV s i)
def beginZ (x : Int) : Bool := smallZ x || decide (x = 40) || decide (x = 41) || decide (x = 124) || decide (x = 42) || decide (x = 43) || decide (x = 63) || decide (x = 123)
/-- The signs, from a place on, behind those that have been read. -/
def lexR (s : List UInt8) : Nat → Nat → List Sg → Except (Int × Int) (List Sg)
  | 0, _, out => .ok out
  | f + 1, i, out =>
    if s.length ≤ i then .ok out
    else if bz s i = 32 then lexR s f (i + 1) out
    else if out.length = 200 then (if beginZ (bz s i) = true then .error ((i : Int), 4) else .error (wrongV s i))
    else match oneR s i with
      | .error e => .error e
      | .ok (x, q) => lexR s f q (out ++ [x])
def lexV (s : List UInt8) : Except (Int × Int) (List Sg) := lexR s s.length 0 []

theorem atoi1 : ∀ n : Fin 10, (match Go.Lib.atoiAll [UInt8.ofNat (48 + n.val)] with | .ok v => v == (n.val : Int) | _ => false) = true := by decide +kernel
theorem atoi2 : ∀ n m : Fin 10, (match Go.Lib.atoiAll [UInt8.ofNat (48 + n.val), UInt8.ofNat (48 + m.val)] with | .ok v => v == (10 * n.val + m.val : Int) | _ => false) = true := by decide +kernel
theorem atoi_one {a : UInt8} (h : digitZ (a.toNat : Int) = true) : Go.Lib.atoiAll [a] = .ok ((a.toNat : Int) - 48) := by
  have hd := digit_iff.1 h
  have e : a = UInt8.ofNat (48 + (a.toNat - 48)) := by
    rw [show 48 + (a.toNat - 48) = a.toNat by omega]; simp
  have := atoi1 ⟨a.toNat - 48, by omega⟩
  simp only [← e] at this
  split at this
  · rename_i v hv
    rw [hv]; simp at this; rw [this]; congr 1; omega
  · cases this
theorem atoi_two {a b : UInt8} (h : digitZ (a.toNat : Int) = true) (h' : digitZ (b.toNat : Int) = true) : Go.Lib.atoiAll [a, b] = .ok (10 * ((a.toNat : Int) - 48) + ((b.toNat : Int) - 48)) := by
  have hd := digit_iff.1 h
  have hd' := digit_iff.1 h'
  have e : a = UInt8.ofNat (48 + (a.toNat - 48)) := by
    rw [show 48 + (a.toNat - 48) = a.toNat by omega]; simp
  have e' : b = UInt8.ofNat (48 + (b.toNat - 48)) := by
    rw [show 48 + (b.toNat - 48) = b.toNat by omega]; simp
  have := atoi2 ⟨a.toNat - 48, by omega⟩ ⟨b.toNat - 48, by omega⟩
  simp only [← e, ← e'] at this
  split at this
  · rename_i v hv
    rw [hv]; simp at this; rw [this]; congr 1; omega
  · cases this
theorem cut_one {s : List UInt8} {i : Nat} (h : i < s.length) : (s.drop i).take 1 = [s.getD i 0] := by
  rw [List.getD_eq_getElem?_getD, List.getElem?_eq_getElem h, List.drop_eq_getElem_cons h]
  rfl
theorem cut_two {s : List UInt8} {i : Nat} (h : i + 1 < s.length) : (s.drop i).take 2 = [s.getD i 0, s.getD (i + 1) 0] := by
  rw [List.getD_eq_getElem?_getD, List.getD_eq_getElem?_getD, List.getElem?_eq_getElem h, List.getElem?_eq_getElem (by omega : i < s.length), List.drop_eq_getElem_cons (by omega : i < s.length), List.drop_eq_getElem_cons h]
  rfl

theorem num_stop {s : List UInt8} {i k : Nat} (hk : k ≤ 2) (h0 : 0 < k → digitZ (bz s i) = true) (h1 : 1 < k → digitZ (bz s (i + 1)) = true ∧ bz s i ≠ 48) (hd : digitZ (bz s (i + k)) = true) (hc : k = 2 ∨ (0 < k ∧ bz s i = 48)) : numL s i = (none, i + k) := by
  unfold numL
  match k, hk, h0, h1, hd, hc with
  | 0, _, _, _, _, hc => omega
  | 1, _, h0, _, hd, hc =>
    rw [if_pos (h0 (by omega)), if_pos hd, if_pos (by omega)]
  | 2, _, h0, h1, hd, hc =>
    rw [if_pos (h0 (by omega)), if_pos (h1 (by omega)).1, if_neg (h1 (by omega)).2, if_pos hd]
theorem num_zero {s : List UInt8} {i : Nat} (hd : digitZ (bz s i) = false) : numL s i = (none, i) := by
  unfold numL
  rw [if_neg (by rw [hd]; decide)]
theorem num_val {s : List UInt8} {i k : Nat} (hk : k ≤ 2) (hk0 : k ≠ 0) (h0 : 0 < k → digitZ (bz s i) = true) (h1 : 1 < k → digitZ (bz s (i + 1)) = true ∧ bz s i ≠ 48) (hd : digitZ (bz s (i + k)) = false) :
    ∃ v, Go.Lib.atoiAll ((s.drop i).take (i + k - i)) = .ok v ∧ numL s i = (some v, i + k) ∧ 0 ≤ v ∧ v ≤ 99 := by
  have hd' : ¬ digitZ (bz s (i + k)) = true := by rw [hd]; decide
  match k, hk, hk0, h0, h1, hd' with
  | 1, _, _, h0, _, hd' =>
    have h := h0 (by omega)
    have hlt := digit_lt h
    have hdi := digit_iff.1 h
    refine ⟨bz s i - 48, ?_, ?_, by omega, by omega⟩
    · rw [show i + 1 - i = 1 by omega, cut_one hlt]
      rw [bz_in hlt] at h ⊢
      exact atoi_one h
    · unfold numL
      rw [if_pos h, if_neg hd']
  | 2, _, _, h0, h1, hd' =>
    have h := h0 (by omega)
    have h2 := h1 (by omega)
    have hlt := digit_lt h2.1
    have hdi := digit_iff.1 h
    have hdj := digit_iff.1 h2.1
    refine ⟨10 * (bz s i - 48) + (bz s (i + 1) - 48), ?_, ?_, by omega, by omega⟩
    · rw [show i + 2 - i = 2 by omega, cut_two hlt]
      rw [bz_in (by omega)] at h ⊢
      have h3 := h2.1
      rw [bz_in hlt] at h3 ⊢
      exact atoi_two h h3
    · unfold numL
      rw [if_pos h, if_pos h2.1, if_neg h2.2, if_neg hd']
theorem numR_err {s : List UInt8} {i p : Nat} {low : Int} (h : numL s i = (none, p)) : numR s i low = .error (wrongV s p) := by unfold numR; rw [h]
theorem numR_range {s : List UInt8} {i q : Nat} {low v : Int} (h : numL s i = (some v, q)) (hv : v < low ∨ 20 < v) : numR s i low = .error ((i : Int), 3) := by unfold numR; rw [h]; simp only; rw [if_pos hv]
theorem numR_ok {s : List UInt8} {i q : Nat} {low v : Int} (h : numL s i = (some v, q)) (hv : ¬ (v < low ∨ 20 < v)) : numR s i low = .ok (v, q) := by unfold numR; rw [h]; simp only; rw [if_neg hv]
theorem numL_le {s : List UInt8} {i q : Nat} {o : Option Int} (hi : i ≤ s.length) (h : numL s i = (o, q)) : q ≤ s.length ∧ i ≤ q ∧ (∀ v, o = some v → i < q ∧ 0 ≤ v) := by
  unfold numL at h
  split at h
  · rename_i h1
    have := digit_lt h1
    have d1 := digit_iff.1 h1
    split at h
    · rename_i h2
      have := digit_lt h2
      have d2 := digit_iff.1 h2
      split at h
      · injection h with h h'; subst h; subst h'; exact ⟨by omega, by omega, fun v hv => by cases hv⟩
      · split at h
        · rename_i h3
          have := digit_lt h3
          injection h with h h'; subst h; subst h'; exact ⟨by omega, by omega, fun v hv => by cases hv⟩
        · injection h with h h'; subst h; subst h'; exact ⟨by omega, by omega, fun v hv => by injection hv with hv; omega⟩
    · injection h with h h'; subst h; subst h'; exact ⟨by omega, by omega, fun v hv => by injection hv with hv; omega⟩
  · injection h with h h'; subst h; subst h'; exact ⟨by omega, by omega, fun v hv => by cases hv⟩
theorem numR_le {s : List UInt8} {i q : Nat} {low v : Int} (hi : i ≤ s.length) (h : numR s i low = .ok (v, q)) : q ≤ s.length ∧ i < q ∧ low ≤ v ∧ v ≤ 20 := by
  unfold numR at h
  split at h
  · cases h
  · rename_i n q' hn
    split at h
    · cases h
    · rename_i hv
      injection h with h; injection h with h1 h2; subst h1; subst h2
      have := numL_le hi hn
      have h3 := this.2.2 _ rfl
      refine ⟨this.1, h3.1, ?_, ?_⟩ <;> omega
theorem num_next {s : List UInt8} {i k : Nat} (hk : k ≤ 2) (h0 : 0 < k → digitZ (bz s i) = true) (h1 : 1 < k → digitZ (bz s (i + 1)) = true ∧ bz s i ≠ 48) (hd : digitZ (bz s (i + k)) = true) (hc : ¬ (k = 2 ∨ (0 < k ∧ bz s i = 48))) :
    k + 1 ≤ 2 ∧ i + (k + 1) ≤ s.length ∧ (0 < k + 1 → digitZ (bz s i) = true) ∧ (1 < k + 1 → digitZ (bz s (i + 1)) = true ∧ bz s i ≠ 48) := by
  have := digit_lt hd
  have hk2 : k < 2 := by omega
  match k, hk2, h0, h1, hd, hc with
  | 0, _, h0, h1, hd, hc => exact ⟨by omega, by omega, fun _ => hd, fun h => absurd h (by omega)⟩
  | 1, _, h0, h1, hd, hc => exact ⟨by omega, by omega, fun _ => h0 (by omega), fun _ => ⟨hd, fun h => hc (.inr ⟨by omega, h⟩)⟩⟩
theorem run_eq {s : List UInt8} : ∀ {f i k : Nat}, k ≤ f → (∀ j, j < k → alnumZ (bz s (i + j)) = true) → (k < f → alnumZ (bz s (i + k)) = false) → runL s i f = k
  | 0, i, k, hk, _, _ => by simp [runL]; omega
  | f + 1, i, 0, _, _, h2 => by
    have := h2 (by omega)
    rw [Nat.add_zero] at this
    simp [runL, this]
  | f + 1, i, k + 1, hk, h1, h2 => by
    have h0 := h1 0 (by omega)
    rw [Nat.add_zero] at h0
    have := run_eq (s := s) (f := f) (i := i + 1) (k := k) (by omega) (fun j hj => by rw [show i + 1 + j = i + (j + 1) by omega]; exact h1 (j + 1) (by omega)) (fun hkf => by rw [show i + 1 + k = i + (k + 1) by omega]; exact h2 (by omega))
    simp [runL, h0, this]
theorem name_long {s : List UInt8} {i : Nat} (h : ∀ j, j < 13 → alnumZ (bz s (i + j)) = true) : nameR s i = .error (((i + 12 : Nat) : Int), 2) := by
  unfold nameR
  rw [if_pos (run_eq (Nat.le_refl _) h (fun h => absurd h (by omega)))]
theorem name_ok {s : List UInt8} {i k : Nat} (hk : k ≤ 12) (h : ∀ j, j < k → alnumZ (bz s (i + j)) = true) (h2 : alnumZ (bz s (i + k)) = false) : nameR s i = .ok (⟨1, i, 0, 0, (s.drop i).take (i + k - i)⟩, i + k) := by
  unfold nameR
  have := run_eq (f := 13) (by omega) h (fun _ => h2)
  rw [this, if_neg (by omega), show i + k - i = k by omega]
def chrZ (k : Nat) : Int := match k with | 0 => 40 | 1 => 41 | 2 => 124 | 3 => 42 | 4 => 43 | _ => 63
theorem chr_range (k : Nat) : 40 ≤ chrZ k ∧ chrZ k ≤ 124 := by
  unfold chrZ; split <;> omega
theorem one_none {s : List UInt8} {i : Nat} (h0 : smallZ (bz s i) = false) (h1 : bz s i ≠ 123) (h : ∀ j, j < 6 → bz s i ≠ chrZ j) : oneR s i = .error (wrongV s i) := by
  unfold oneR
  rw [if_neg (by rw [h0]; decide), if_neg h1, if_neg (show ¬ bz s i = 40 from h 0 (by omega)), if_neg (show ¬ bz s i = 41 from h 1 (by omega)), if_neg (show ¬ bz s i = 124 from h 2 (by omega)), if_neg (show ¬ bz s i = 42 from h 3 (by omega)), if_neg (show ¬ bz s i = 43 from h 4 (by omega)), if_neg (show ¬ bz s i = 63 from h 5 (by omega))]
theorem one_42 {s : List UInt8} {i : Nat} (h : bz s i = 42) : oneR s i = .ok (⟨5, i, 0, -1, []⟩, i + 1) := by
  unfold oneR; rw [h]; rfl
theorem one_43 {s : List UInt8} {i : Nat} (h : bz s i = 43) : oneR s i = .ok (⟨5, i, 1, -1, []⟩, i + 1) := by
  unfold oneR; rw [h]; rfl
theorem one_63 {s : List UInt8} {i : Nat} (h : bz s i = 63) : oneR s i = .ok (⟨5, i, 0, 1, []⟩, i + 1) := by
  unfold oneR; rw [h]; rfl
theorem one_par {s : List UInt8} {i k : Nat} (hk : k < 6) (h : bz s i = chrZ k) (h1 : chrZ k ≠ 42) (h2 : chrZ k ≠ 43) (h3 : chrZ k ≠ 63) : oneR s i = .ok (⟨2 + k, i, 0, 0, []⟩, i + 1) := by
  match k, hk, h, h1, h2, h3 with
  | 0, _, h, _, _, _ => unfold oneR; rw [h]; rfl
  | 1, _, h, _, _, _ => unfold oneR; rw [h]; rfl
  | 2, _, h, _, _, _ => unfold oneR; rw [h]; rfl
  | 3, _, _, h, _, _ => exact absurd rfl h
  | 4, _, _, _, h, _ => exact absurd rfl h
  | 5, _, _, _, _, h => exact absurd rfl h
theorem name_le {s : List UInt8} : ∀ {f i : Nat}, i ≤ s.length → i + runL s i f ≤ s.length
  | 0, i, h => by simp [runL]; exact h
  | f + 1, i, h => by
    unfold runL
    split
    · rename_i ha
      have hlt : i < s.length := bz_lt (fun h0 => by rw [h0] at ha; exact absurd ha (by decide))
      have := name_le (s := s) (f := f) (i := i + 1) hlt
      omega
    · omega
theorem oneR_le {s : List UInt8} {i q : Nat} {x : Sg} (h : oneR s i = .ok (x, q)) : i < q ∧ q ≤ s.length := by
  have key : ∀ {c : Int} {y : Sg}, bz s i = c → c ≠ 0 → (Except.ok (y, i + 1) : Except (Int × Int) (Sg × Nat)) = .ok (x, q) → i < q ∧ q ≤ s.length := by
    intro c y h1 h2 h3
    injection h3 with h3; injection h3 with _ h3
    have := bz_lt (s := s) (i := i) (by rw [h1]; exact h2)
    omega
  unfold oneR at h
  split at h
  · rename_i hs
    have hlt := small_lt hs
    unfold nameR at h
    split at h
    · cases h
    · injection h with h; injection h with _ h
      have h1 : 0 < runL s i 13 := by
        have : alnumZ (bz s i) = true := by unfold alnumZ; rw [hs]; rfl
        unfold runL; rw [if_pos this]; omega
      have := name_le (s := s) (f := 13) (i := i) (by omega)
      omega
  split at h
  · rename_i hc
    have hlt := bz_lt (s := s) (i := i) (by omega)
    unfold countR at h
    split at h
    · cases h
    · rename_i n p hn
      have hp := numR_le (by omega) hn
      split at h
      · rename_i h44
        have hl2 := bz_lt (s := s) (i := p) (by omega)
        split at h
        · rename_i h125
          have := bz_lt (s := s) (i := p + 1) (by omega)
          injection h with h; injection h with _ h; omega
        · split at h
          · cases h
          · rename_i m q' hm
            have hq := numR_le (by omega) hm
            split at h
            · rename_i h125
              have := bz_lt (s := s) (i := q') (by omega)
              injection h with h; injection h with _ h; omega
            · cases h
      · split at h
        · rename_i h125
          have := bz_lt (s := s) (i := p) (by omega)
          split at h
          · cases h
          · injection h with h; injection h with _ h; omega
        · cases h
  split at h
  · rename_i hc; exact key hc (by decide) h
  split at h
  · rename_i hc; exact key hc (by decide) h
  split at h
  · rename_i hc; exact key hc (by decide) h
  split at h
  · rename_i hc; exact key hc (by decide) h
  split at h
  · rename_i hc; exact key hc (by decide) h
  split at h
  · rename_i hc; exact key hc (by decide) h
  cases h
theorem lexR_fuel {s : List UInt8} : ∀ {f f' i : Nat} {out : List Sg}, s.length - i ≤ f → s.length - i ≤ f' → lexR s f i out = lexR s f' i out
  | 0, 0, _, _, _, _ => rfl
  | 0, f' + 1, i, out, h, h' => by simp only [lexR]; rw [if_pos (by omega)]
  | f + 1, 0, i, out, h, h' => by simp only [lexR]; rw [if_pos (by omega)]
  | f + 1, f' + 1, i, out, h, h' => by
    simp only [lexR]
    by_cases h1 : s.length ≤ i
    · rw [if_pos h1, if_pos h1]
    · rw [if_neg h1, if_neg h1]
      by_cases h2 : bz s i = 32
      · rw [if_pos h2, if_pos h2]; exact lexR_fuel (by omega) (by omega)
      · rw [if_neg h2, if_neg h2]
        by_cases h3 : out.length = 200
        · rw [if_pos h3, if_pos h3]
        · rw [if_neg h3, if_neg h3]
          cases hx : oneR s i with
          | error e => rfl
          | ok y =>
            obtain ⟨x, q⟩ := y
            have := oneR_le hx
            exact lexR_fuel (by omega) (by omega)
/-- The signs, from a place on. -/
def lexAt (s : List UInt8) (i : Nat) (out : List Sg) : Except (Int × Int) (List Sg) := lexR s (s.length - i) i out
theorem lexV_at (s : List UInt8) : lexAt s 0 [] = lexV s := rfl
theorem lexAt_end {s : List UInt8} {i : Nat} {out : List Sg} (h : s.length ≤ i) : lexAt s i out = .ok out := by
  unfold lexAt; rw [show s.length - i = 0 by omega]; rfl
theorem lexAt_step {s : List UInt8} {i : Nat} {out : List Sg} (h : i < s.length) : lexAt s i out = if bz s i = 32 then lexAt s (i + 1) out
    else if out.length = 200 then (if beginZ (bz s i) = true then .error ((i : Int), 4) else .error (wrongV s i))
    else match oneR s i with
      | .error e => .error e
      | .ok (x, q) => lexAt s q (out ++ [x]) := by
  unfold lexAt
  rw [show s.length - i = (s.length - i - 1) + 1 by omega]
  simp only [lexR]
  rw [if_neg (by omega)]
  by_cases h2 : bz s i = 32
  · rw [if_pos h2, if_pos h2]; exact lexR_fuel (by omega) (by omega)
  · rw [if_neg h2, if_neg h2]
    by_cases h3 : out.length = 200
    · rw [if_pos h3, if_pos h3]
    · rw [if_neg h3, if_neg h3]
      cases hx : oneR s i with
      | error e => rfl
      | ok y =>
        obtain ⟨x, q⟩ := y
        have := oneR_le hx
        exact lexR_fuel (by omega) (by omega)
theorem begin_idx : ∀ n : Fin 256, (decide (Go.Lib.indexByte [40, 41, 124, 42, 43, 63, 123] (UInt8.ofNat n.val) < 0)) = !(decide ((n.val : Int) = 40) || decide ((n.val : Int) = 41) || decide ((n.val : Int) = 124) || decide ((n.val : Int) = 42) || decide ((n.val : Int) = 43) || decide ((n.val : Int) = 63) || decide ((n.val : Int) = 123)) := by decide +kernel
theorem begin_iff (c : UInt8) : (!smallZ (c.toNat : Int) && decide (Go.Lib.indexByte [40, 41, 124, 42, 43, 63, 123] c < 0)) = !beginZ (c.toNat : Int) := by
  have := begin_idx ⟨c.toNat, c.toNat_lt⟩
  simp only [UInt8.ofNat_toNat] at this
  rw [this]
  unfold beginZ
  simp only [Bool.not_or, Bool.and_assoc]
theorem lexAt_sp {s : List UInt8} {i : Nat} {out : List Sg} (h : i < s.length) (h0 : bz s i = 32) : lexAt s i out = lexAt s (i + 1) out := by
  rw [lexAt_step h, if_pos h0]
theorem lexAt_odd {s : List UInt8} {i : Nat} {out : List Sg} (h : i < s.length) (h0 : ¬ bz s i = 32) (h1 : out.length = 200) (h2 : beginZ (bz s i) = false) : lexAt s i out = .error (wrongV s i) := by
  rw [lexAt_step h, if_neg h0, if_pos h1, if_neg (by rw [h2]; decide)]
theorem lexAt_long {s : List UInt8} {i : Nat} {out : List Sg} (h : i < s.length) (h0 : ¬ bz s i = 32) (h1 : out.length = 200) (h2 : beginZ (bz s i) = true) : lexAt s i out = .error ((i : Int), 4) := by
  rw [lexAt_step h, if_neg h0, if_pos h1, if_pos h2]
theorem lexAt_err {s : List UInt8} {i : Nat} {out : List Sg} {e : Int × Int} (h : i < s.length) (h0 : ¬ bz s i = 32) (h1 : ¬ out.length = 200) (h2 : oneR s i = .error e) : lexAt s i out = .error e := by
  rw [lexAt_step h, if_neg h0, if_neg h1, h2]
theorem lexAt_go {s : List UInt8} {i q : Nat} {x : Sg} {out : List Sg} (h : i < s.length) (h0 : ¬ bz s i = 32) (h1 : ¬ out.length = 200) (h2 : oneR s i = .ok (x, q)) : lexAt s i out = lexAt s q (out ++ [x]) := by
  rw [lexAt_step h, if_neg h0, if_neg h1, h2]
theorem bz_dig (s : List UInt8) (i : Nat) : digitZ (bz s i) = (decide ((i : Int) < s.length) && digitZ ((s.getD i 0).toNat : Int)) := by
  rcases Nat.lt_or_ge i s.length with h | h
  · rw [bz_in h, show decide ((i : Int) < s.length) = true from decide_eq_true (by omega), Bool.true_and]
  · rw [bz_out h, show decide ((i : Int) < s.length) = false from decide_eq_false (by omega), Bool.false_and]; decide
theorem bz_small (s : List UInt8) (i : Nat) : smallZ (bz s i) = (decide ((i : Int) < s.length) && smallZ ((s.getD i 0).toNat : Int)) := by
  rcases Nat.lt_or_ge i s.length with h | h
  · rw [bz_in h, show decide ((i : Int) < s.length) = true from decide_eq_true (by omega), Bool.true_and]
  · rw [bz_out h, show decide ((i : Int) < s.length) = false from decide_eq_false (by omega), Bool.false_and]; decide
theorem bz_ndig (s : List UInt8) (i : Nat) : (decide ((s.length : Int) ≤ i) || !digitZ ((s.getD i 0).toNat : Int)) = !digitZ (bz s i) := by
  rcases Nat.lt_or_ge i s.length with h | h
  · rw [bz_in h, show decide ((s.length : Int) ≤ i) = false from decide_eq_false (by omega), Bool.false_or]
  · rw [bz_out h, show decide ((s.length : Int) ≤ i) = true from decide_eq_true (by omega), Bool.true_or]; decide
theorem bz_eqb (s : List UInt8) (i : Nat) {c : Int} (hc : c ≠ 0) : (decide ((i : Int) < s.length) && ((s.getD i 0).toNat : Int) == c) = decide (bz s i = c) := by
  rcases Nat.lt_or_ge i s.length with h | h
  · rw [bz_in h, show decide ((i : Int) < s.length) = true from decide_eq_true (by omega), Bool.true_and]; rfl
  · rw [bz_out h, show decide ((i : Int) < s.length) = false from decide_eq_false (by omega), Bool.false_and]
    exact (decide_eq_false (fun h => hc h.symm)).symm
theorem bz_neb (s : List UInt8) (i : Nat) {c : Int} (hc : c ≠ 0) : (decide ((s.length : Int) ≤ i) || ((s.getD i 0).toNat : Int) != c) = !decide (bz s i = c) := by
  rcases Nat.lt_or_ge i s.length with h | h
  · rw [bz_in h, show decide ((s.length : Int) ≤ i) = false from decide_eq_false (by omega), Bool.false_or]; rfl
  · rw [bz_out h, show decide ((s.length : Int) ≤ i) = true from decide_eq_true (by omega), Bool.true_or]
    rw [decide_eq_false (fun h => hc h.symm)]; rfl
/-- A count, as the document has it: the sign, a place, what is wrong. -/
def countF (s : List UInt8) (i : Nat) : Sg × Int × Int :=
  match numL s (i + 1) with
  | (none, p) => (⟨5, i, 0, 0, []⟩, wrongV s p)
  | (some n, p) =>
    if 20 < n ∨ (n = 0 ∧ bz s p = 125) then (⟨5, i, 0, 0, []⟩, ((i + 1 : Nat) : Int), 3)
    else if bz s p = 44 then
      if bz s (p + 1) = 125 then (⟨5, i, n, -1, []⟩, ((p + 2 : Nat) : Int), 0)
      else match numL s (p + 1) with
        | (none, q) => (⟨5, i, n, -1, []⟩, wrongV s q)
        | (some m, q) => if m < 1 ∨ 20 < m ∨ m < n then (⟨5, i, n, -1, []⟩, ((p + 1 : Nat) : Int), 3)
          else if bz s q = 125 then (⟨5, i, n, m, []⟩, ((q + 1 : Nat) : Int), 0) else (⟨5, i, n, m, []⟩, wrongV s q)
    else if bz s p = 125 then (⟨5, i, n, n, []⟩, ((p + 1 : Nat) : Int), 0)
    else (⟨5, i, n, n, []⟩, wrongV s p)
def sgZ : Sg := ⟨0, 0, 0, 0, []⟩
def nameF (s : List UInt8) (i : Nat) : Sg × Int × Int :=
  if runL s i 13 = 13 then (sgZ, ((i + 12 : Nat) : Int), 2) else (⟨1, i, 0, 0, (s.drop i).take (runL s i 13)⟩, ((i + runL s i 13 : Nat) : Int), 0)
def oneF (s : List UInt8) (i : Nat) : Sg × Int × Int :=
  if smallZ (bz s i) = true then nameF s i
  else if bz s i = 40 then (⟨2, i, 0, 0, []⟩, ((i + 1 : Nat) : Int), 0)
  else if bz s i = 41 then (⟨3, i, 0, 0, []⟩, ((i + 1 : Nat) : Int), 0)
  else if bz s i = 124 then (⟨4, i, 0, 0, []⟩, ((i + 1 : Nat) : Int), 0)
  else if bz s i = 42 then (⟨5, i, 0, -1, []⟩, ((i + 1 : Nat) : Int), 0)
  else if bz s i = 43 then (⟨5, i, 1, -1, []⟩, ((i + 1 : Nat) : Int), 0)
  else if bz s i = 63 then (⟨5, i, 0, 1, []⟩, ((i + 1 : Nat) : Int), 0)
  else if bz s i = 123 then countF s i
  else (sgZ, (i : Int), 2)
def SameF (r : Except (Int × Int) (Sg × Nat)) (f : Sg × Int × Int) : Prop := match r with
  | .ok (x, q) => f = (x, (q : Int), 0)
  | .error e => f.2 = e ∧ e.2 ≠ 0
theorem wrong_ne (s : List UInt8) (p : Nat) : (wrongV s p).2 ≠ 0 := by unfold wrongV; split <;> simp
theorem count_same (s : List UInt8) (i : Nat) (hi : i < s.length) : SameF (countR s i) (countF s i) := by
  unfold countR countF
  cases hn : numL s (i + 1) with
  | mk o p =>
    cases o with
    | none => rw [numR_err hn]; exact ⟨rfl, wrong_ne s p⟩
    | some n =>
      have h0 := (numL_le (by omega) hn).2.2 n rfl
      by_cases h20 : 20 < n
      · rw [numR_range hn (.inr h20)]
        simp only
        rw [if_pos (.inl h20)]
        exact ⟨rfl, by simp⟩
      · rw [numR_ok hn (by omega)]
        simp only
        by_cases h44 : bz s p = 44
        · rw [if_pos h44, if_neg (show ¬ (20 < n ∨ n = 0 ∧ bz s p = 125) by omega), if_pos h44]
          by_cases h125 : bz s (p + 1) = 125
          · rw [if_pos h125, if_pos h125]; rfl
          · rw [if_neg h125, if_neg h125]
            have hlt := bz_lt (s := s) (i := p) (by omega)
            cases hm : numL s (p + 1) with
            | mk o2 q =>
              cases o2 with
              | none => rw [numR_err hm]; exact ⟨rfl, wrong_ne s q⟩
              | some m =>
                simp only
                by_cases hr : m < (if 1 > n then 1 else n) ∨ 20 < m
                · rw [numR_range hm hr]
                  rw [if_pos (show m < 1 ∨ 20 < m ∨ m < n by split at hr <;> omega)]
                  exact ⟨rfl, by simp⟩
                · rw [numR_ok hm hr]
                  rw [if_neg (show ¬ (m < 1 ∨ 20 < m ∨ m < n) by split at hr <;> omega)]
                  simp only
                  by_cases h5 : bz s q = 125
                  · rw [if_pos h5, if_pos h5]; rfl
                  · rw [if_neg h5, if_neg h5]; exact ⟨rfl, wrong_ne s q⟩
        · rw [if_neg h44]
          by_cases h125 : bz s p = 125
          · by_cases hz : n = 0
            · rw [if_pos h125, if_pos hz, if_pos (.inr ⟨hz, h125⟩)]; exact ⟨rfl, by simp⟩
            · rw [if_pos h125, if_neg hz, if_neg (show ¬ (20 < n ∨ n = 0 ∧ bz s p = 125) by omega), if_neg h44, if_pos h125]; rfl
          · rw [if_neg h125, if_neg (show ¬ (20 < n ∨ n = 0 ∧ bz s p = 125) by omega), if_neg h44, if_neg h125]; exact ⟨rfl, wrong_ne s p⟩
theorem one_same (s : List UInt8) (i : Nat) (hi : i < s.length) : SameF (oneR s i) (oneF s i) := by
  unfold oneR oneF
  by_cases h : smallZ (bz s i) = true
  · rw [if_pos h, if_pos h]
    unfold nameR nameF
    split
    · exact ⟨rfl, by simp⟩
    · rfl
  rw [if_neg h, if_neg h]
  by_cases h1 : bz s i = 123
  · rw [if_pos h1, if_neg (show ¬ bz s i = 40 by omega), if_neg (show ¬ bz s i = 41 by omega), if_neg (show ¬ bz s i = 124 by omega), if_neg (show ¬ bz s i = 42 by omega), if_neg (show ¬ bz s i = 43 by omega), if_neg (show ¬ bz s i = 63 by omega), if_pos h1]
    exact count_same s i hi
  rw [if_neg h1]
  by_cases h2 : bz s i = 40
  · rw [if_pos h2, if_pos h2]; rfl
  rw [if_neg h2, if_neg h2]
  by_cases h3 : bz s i = 41
  · rw [if_pos h3, if_pos h3]; rfl
  rw [if_neg h3, if_neg h3]
  by_cases h4 : bz s i = 124
  · rw [if_pos h4, if_pos h4]; rfl
  rw [if_neg h4, if_neg h4]
  by_cases h5 : bz s i = 42
  · rw [if_pos h5, if_pos h5]; rfl
  rw [if_neg h5, if_neg h5]
  by_cases h6 : bz s i = 43
  · rw [if_pos h6, if_pos h6]; rfl
  rw [if_neg h6, if_neg h6]
  by_cases h7 : bz s i = 63
  · rw [if_pos h7, if_pos h7]; rfl
  rw [if_neg h7, if_neg h7, if_neg h1]
  rw [wrong_in hi]
  exact ⟨rfl, by simp⟩
theorem cnt_bad (s : List UInt8) (p : Nat) (n : Int) : (decide (20 < n) || ((n == 0 && decide ((p : Int) < s.length)) && ((s.getD p 0).toNat : Int) == 125)) = decide (20 < n ∨ (n = 0 ∧ bz s p = 125)) := by
  rw [Bool.and_assoc, bz_eqb s p (by decide), Bool.decide_or, Bool.decide_and]
  rfl
theorem bz_alnum (s : List UInt8) (i : Nat) : (decide ((i : Int) < s.length) && (smallZ ((s.getD i 0).toNat : Int) || digitZ ((s.getD i 0).toNat : Int))) = alnumZ (bz s i) := by
  unfold alnumZ
  rw [bz_small, bz_dig, Bool.and_or_distrib_left]
theorem one_nobegin {s : List UInt8} {i : Nat} (h : beginZ (bz s i) = false) : oneR s i = .error (wrongV s i) := by
  unfold beginZ at h
  simp only [Bool.or_eq_false_iff, decide_eq_false_iff_not] at h
  obtain ⟨⟨⟨⟨⟨⟨⟨h0, h1⟩, h2⟩, h3⟩, h4⟩, h5⟩, h6⟩, h7⟩ := h
  unfold oneR
  rw [if_neg (by rw [h0]; decide), if_neg h7, if_neg h1, if_neg h2, if_neg h3, if_neg h4, if_neg h5, if_neg h6]
end Go.Proofs.YtmcchhmgchgaaaaDoor

namespace Go.Proofs.YtmcchhmgchgaaaaDoor
set_option linter.unusedSimpArgs false
set_option linter.unusedVariables false
set_option maxRecDepth 100000
open Go.RowKit

@[reducible] def rdF (s : List UInt8) (i : Nat) : Nat → Nat → HV := fun _ j => match j with | 0 => strV s | _ => intV i
@[reducible] def rdO (g : Nat) (s : List UInt8) (i : Nat) : HObj := ⟨g, 1, 2, 129, 0, rdF s i⟩
@[reducible] def faultF (e : Int × Int) : Nat → HV := fun j => match j with | 0 => intV e.1 | _ => intV e.2
@[reducible] def faultV (e : Int × Int) : HV := .ifc 125 (.agg 2 (faultF e))
theorem fz_agg2 {sh : List (Nat × HObj)} {f f' : Nat → HV} (h0 : Fz sh (f 0) (f' 0)) (h1 : Fz sh (f 1) (f' 1)) : Fz sh (.agg 2 f) (.agg 2 f') := .agg _ _ _ fun i hi => by
  match i, hi with
  | 0, _ => exact h0
  | 1, _ => exact h1
theorem fz_agg5 {sh : List (Nat × HObj)} {f f' : Nat → HV} (h0 : Fz sh (f 0) (f' 0)) (h1 : Fz sh (f 1) (f' 1)) (h2 : Fz sh (f 2) (f' 2)) (h3 : Fz sh (f 3) (f' 3)) (h4 : Fz sh (f 4) (f' 4)) : Fz sh (.agg 5 f) (.agg 5 f') := .agg _ _ _ fun i hi => by
  match i, hi with
  | 0, _ => exact h0
  | 1, _ => exact h1
  | 2, _ => exact h2
  | 3, _ => exact h3
  | 4, _ => exact h4
instance frz_fault (e : Int × Int) : Frz (faultV e) := ⟨.ifc _ _ _ (fz_agg2 (.imm _) (.imm _))⟩
theorem kz_fault {kp sh : List (Nat × HObj)} (e : Int × Int) : Kz kp sh (faultV e) (faultV e) := .fz _ _ Frz.fz
theorem kz_rd {kp sh : List (Nat × HObj)} {g i : Nat} {s : List UInt8} : OKz kp sh (rdO g s i) (rdO g s i) := okz2 (.fz _ _ (.imm _)) (.fz _ _ (.imm _))
theorem small_h (x : Int) : HPure Tryd.prog 86 [.imm (.int .u8 x)] (boolV (smallZ x)) := by
  refine hpure_of Tryd.func86 rfl (by kernel_rfl) _ _ _ rfl 9 rfl rfl (fun w F => ?_)
  refine srg fun N h1 => ?_
  refine sta rfl rfl rfl ?_
  refine snl h1 ?_
  refine srg fun N h2 => ?_
  refine stm rfl rfl rfl ?_
  refine st0 (hop_geq rfl rfl) rfl rfl ?_
  refine stm rfl rfl rfl ?_
  refine stg 5 (fun hb => hop_move rfl) rfl rfl rfl rfl rfl ?_
  refine stg 5 (fun hb => hop_leq rfl rfl) rfl rfl rfl rfl rfl ?_
  refine hq_p 8 (hstep_and _ _ rfl rfl rfl) rfl rfl rfl ?_
  refine sta rfl rfl rfl ?_
  refine hseq_nilU (by rfl) (by simp only [dropUn, slots]; exact rfl) ?_
  refine h2 _ ?_
  refine hw_ret ?_
  refine hq_ret1 rfl (rval_tmp rfl) [] rfl pre0 ?_
  exact Frz.fz
theorem digit_h (x : Int) : HPure Tryd.prog 127 [.imm (.int .u8 x)] (boolV (digitZ x)) := by
  refine hpure_of Tryd.func127 rfl (by kernel_rfl) _ _ _ rfl 9 rfl rfl (fun w F => ?_)
  refine srg fun N h1 => ?_
  refine sta rfl rfl rfl ?_
  refine snl h1 ?_
  refine srg fun N h2 => ?_
  refine stm rfl rfl rfl ?_
  refine st0 (hop_geq rfl rfl) rfl rfl ?_
  refine stm rfl rfl rfl ?_
  refine stg 5 (fun hb => hop_move rfl) rfl rfl rfl rfl rfl ?_
  refine stg 5 (fun hb => hop_leq rfl rfl) rfl rfl rfl rfl rfl ?_
  refine hq_p 8 (hstep_and _ _ rfl rfl rfl) rfl rfl rfl ?_
  refine sta rfl rfl rfl ?_
  refine hseq_nilU (by rfl) (by simp only [dropUn, slots]; exact rfl) ?_
  refine h2 _ ?_
  refine hw_ret ?_
  refine hq_ret1 rfl (rval_tmp rfl) [] rfl pre0 ?_
  exact Frz.fz
theorem peek_h (g : Nat) (s : List UInt8) (i : Nat) (hs : s.length ≤ 1000000) (hi : i ≤ s.length) : HFunD Tryd.prog 85 [.pt 9001 g 0 0] [(9001, rdO g s i)] (.imm (.int .u8 (bz s i))) [(9001, rdO g s i)] := by
  intro c
  refine hfun_of Tryd.func85 rfl (by kernel_rfl) _ _ _ _ rfl 22 rfl rfl (fun X ok hX => ?_)
  refine srg fun N h1 => ?_
  refine sta rfl rfl rfl ?_
  refine snl h1 ?_
  refine hw_seq (fun Nh2 h2 => ?_)
  refine hw_seq (fun Nh3 h3 => ?_)
  refine hd_start ?_
  refine hd_q 3 (hop_move rfl) rfl rfl pre0 rfl rfl (k' := 1) rfl ?_
  refine hd_q 4 (hop_nilcheck_pt rfl) rfl rfl pre0 rfl rfl (k' := 2) rfl ?_
  refine hd_q 5 (hop_fa fd_129_1 rfl) rfl rfl pre0 rfl rfl (k' := 3) rfl ?_
  refine hd_q 6 (hol_load ty_3 rfl (nb rfl) (nb rfl) (fun h => (by rfl))) rfl rfl (pre1 rfl) rfl rfl (k' := 4) rfl ?_
  refine hd_q 7 (hop_move rfl) rfl rfl pre0 rfl rfl (k' := 5) rfl ?_
  refine hd_q 8 (hop_nilcheck_pt rfl) rfl rfl pre0 rfl rfl (k' := 6) rfl ?_
  refine hd_q 9 (hop_fa fd_129_0 rfl) rfl rfl pre0 rfl rfl (k' := 7) rfl ?_
  refine hd_q 10 (hol_load ty_9 rfl (nb rfl) (nb rfl) (fun h => (by rfl))) rfl rfl (pre1 rfl) rfl rfl (k' := 8) rfl ?_
  refine hd_q 11 (hop_len_strl (T := 9) rfl (by kernel_rfl) rfl) rfl rfl pre0 rfl rfl (k' := 9) rfl ?_
  refine hd_q 12 (hop_lss rfl rfl) rfl rfl pre0 rfl rfl (k' := 10) rfl ?_
  refine hd_nil (by kernel_rfl) (by kernel_rfl) (c' := c + 10) rfl ?_
  refine h3 _ ?_
  refine hw_cond _ rfl (fun hc0 => ?_) (fun hc0 => ?_)
  · have hr0 := hc0; (try simp only [hcs, Int.reduceToNat] at hc0)
    refine hw_seq (fun Nh4 h4 => ?_)
    refine hd_start ?_
    refine hd_q 13 (hop_move rfl) rfl rfl pre0 rfl rfl (k' := 1) rfl ?_
    refine hd_q 14 (hop_nilcheck_pt rfl) rfl rfl pre0 rfl rfl (k' := 2) rfl ?_
    refine hd_q 15 (hop_fa fd_129_0 rfl) rfl rfl pre0 rfl rfl (k' := 3) rfl ?_
    refine hd_q 16 (hol_load ty_9 rfl (nb rfl) (nb rfl) (fun h => (by rfl))) rfl rfl (pre1 rfl) rfl rfl (k' := 4) rfl ?_
    refine hd_q 17 (hop_move rfl) rfl rfl pre0 rfl rfl (k' := 5) rfl ?_
    refine hd_q 18 (hop_nilcheck_pt rfl) rfl rfl pre0 rfl rfl (k' := 6) rfl ?_
    refine hd_q 19 (hop_fa fd_129_1 rfl) rfl rfl pre0 rfl rfl (k' := 7) rfl ?_
    refine hd_q 20 (hol_load ty_3 rfl (nb rfl) (nb rfl) (fun h => (by rfl))) rfl rfl (pre1 rfl) rfl rfl (k' := 8) rfl ?_
    refine hd_q 21 (hop_ix_strl (by kernel_rfl) rfl rfl (by omega) (by omega)) rfl rfl pre0 rfl rfl (k' := 9) rfl ?_
    refine hd_q 2 (hop_assign rfl) rfl rfl pre0 rfl rfl (k' := 10) rfl ?_
    refine hd_nil (by kernel_rfl) (by kernel_rfl) (c' := c + 20) rfl ?_
    refine h4 _ ?_
    refine hw_ret ?_
    refine hq_then_ret ?_
    refine hf_retR1 ok hX RetS.one rfl (rval_tmp rfl) [] rfl pre0 (()) (trivial) (by rfl) (by rfl) (by rw [bz_in (by simpa using hc0)]; exact (by first | exact .fz _ _ (.imm _) | exact .os _ _ _ _ _ rfl rfl | exact .pt _ _ _ _ _ rfl rfl | exact .nps _ _ _ rfl rfl | (dsimp only; exact .fz _ _ Frz.fz) | exact .fz _ _ (.tup 0 _ _ (fun i hi => absurd hi (Nat.not_lt_zero _))))) ?_
    exact ⟨⟨_, rfl, okz2 (by first | exact .fz _ _ (.imm _) | exact .os _ _ _ _ _ rfl rfl | exact .pt _ _ _ _ _ rfl rfl | exact .nps _ _ _ rfl rfl | (dsimp only; exact .fz _ _ Frz.fz) | exact .fz _ _ (.tup 0 _ _ (fun i hi => absurd hi (Nat.not_lt_zero _)))) (by first | exact .fz _ _ (.imm _) | exact .os _ _ _ _ _ rfl rfl | exact .pt _ _ _ _ _ rfl rfl | exact .nps _ _ _ rfl rfl | (dsimp only; exact .fz _ _ Frz.fz) | exact .fz _ _ (.tup 0 _ _ (fun i hi => absurd hi (Nat.not_lt_zero _))))⟩, trivial⟩
  have hr0 := hc0; (try simp only [hcs, Int.reduceToNat] at hc0)
  refine hw_skip ?_
  refine h2 _ ?_
  refine srg fun N h5 => ?_
  refine sta rfl rfl rfl ?_
  refine snl h5 ?_
  refine hw_ret ?_
  refine hf_retR1 ok hX RetS.one rfl (rval_tmp rfl) [] rfl pre0 (()) (trivial) (by rfl) (by rfl) (by rw [bz_out (by simpa using hc0)]; exact (by first | exact .fz _ _ (.imm _) | exact .os _ _ _ _ _ rfl rfl | exact .pt _ _ _ _ _ rfl rfl | exact .nps _ _ _ rfl rfl | (dsimp only; exact .fz _ _ Frz.fz) | exact .fz _ _ (.tup 0 _ _ (fun i hi => absurd hi (Nat.not_lt_zero _))))) ?_
  exact ⟨⟨_, rfl, okz2 (by first | exact .fz _ _ (.imm _) | exact .os _ _ _ _ _ rfl rfl | exact .pt _ _ _ _ _ rfl rfl | exact .nps _ _ _ rfl rfl | (dsimp only; exact .fz _ _ Frz.fz) | exact .fz _ _ (.tup 0 _ _ (fun i hi => absurd hi (Nat.not_lt_zero _)))) (by first | exact .fz _ _ (.imm _) | exact .os _ _ _ _ _ rfl rfl | exact .pt _ _ _ _ _ rfl rfl | exact .nps _ _ _ rfl rfl | (dsimp only; exact .fz _ _ Frz.fz) | exact .fz _ _ (.tup 0 _ _ (fun i hi => absurd hi (Nat.not_lt_zero _))))⟩, trivial⟩
theorem stop_h (c g : Nat) (s : List UInt8) (i : Nat) (p e : Int) : HFun Tryd.prog 88 c [.pt 9001 g 0 0, intV p, intV e] [(9001, rdO g s i)] (PanP (fun (y : Int × Int) _ => y = (p, e)) faultV (fun _ => [(9001, rdO g s i)])) := by
  refine hfun_of Tryd.func88 rfl (by kernel_rfl) _ _ _ _ rfl 10 rfl rfl (fun X ok hX => ?_)
  refine hw_region ?_
  refine stm rfl rfl rfl ?_
  refine stm rfl rfl rfl ?_
  refine st0 (hop_build (hs := [(0, 1, _), (1, 1, _)]) st_125 rfl rfl ⟨rfl, rfl, rfl, rfl, rfl, ⟨rfl, rfl, rfl, rfl, rfl, trivial⟩⟩) rfl rfl ?_
  refine st0 (hop_iface (by kernel_rfl) rfl) rfl rfl ?_
  refine hseq_panic rfl ?_
  exact hf_panP ok hX (p, e) rfl rfl (.ifc _ _ _ (.fz _ _ (fz_agg2 (.imm _) (.imm _)))) ⟨⟨_, rfl, okz2 (.fz _ _ (.imm _)) (.fz _ _ (.imm _))⟩, trivial⟩
theorem odd_h (c g : Nat) (s : List UInt8) (i : Nat) (hs : s.length ≤ 1000000) (hi : i ≤ s.length) : HFun Tryd.prog 87 c [.pt 9001 g 0 0] [(9001, rdO g s i)] (PanP (fun (y : Int × Int) _ => y = wrongV s i) faultV (fun _ => [(9001, rdO g s i)])) := by
  refine hfun_of Tryd.func87 rfl (by kernel_rfl) _ _ _ _ rfl 24 rfl rfl (fun X ok hX => ?_)
  refine hw_seq (fun Nh1 h1 => ?_)
  refine hw_seq (fun Nh2 h2 => ?_)
  refine hd_start ?_
  refine hd_q 2 (hop_move rfl) rfl rfl pre0 rfl rfl (k' := 1) rfl ?_
  refine hd_q 3 (hop_nilcheck_pt rfl) rfl rfl pre0 rfl rfl (k' := 2) rfl ?_
  refine hd_q 4 (hop_fa fd_129_1 rfl) rfl rfl pre0 rfl rfl (k' := 3) rfl ?_
  refine hd_q 5 (hol_load ty_3 rfl (nb rfl) (nb rfl) (fun h => (by rfl))) rfl rfl (pre1 rfl) rfl rfl (k' := 4) rfl ?_
  refine hd_q 6 (hop_move rfl) rfl rfl pre0 rfl rfl (k' := 5) rfl ?_
  refine hd_q 7 (hop_nilcheck_pt rfl) rfl rfl pre0 rfl rfl (k' := 6) rfl ?_
  refine hd_q 8 (hop_fa fd_129_0 rfl) rfl rfl pre0 rfl rfl (k' := 7) rfl ?_
  refine hd_q 9 (hol_load ty_9 rfl (nb rfl) (nb rfl) (fun h => (by rfl))) rfl rfl (pre1 rfl) rfl rfl (k' := 8) rfl ?_
  refine hd_q 10 (hop_len_strl (T := 9) rfl (by kernel_rfl) rfl) rfl rfl pre0 rfl rfl (k' := 9) rfl ?_
  refine hd_q 11 (hop_eql rfl rfl) rfl rfl pre0 rfl rfl (k' := 10) rfl ?_
  refine hd_nil (by kernel_rfl) (by kernel_rfl) (c' := c + 10) rfl ?_
  refine h2 _ ?_
  refine hw_cond _ rfl (fun hc0 => ?_) (fun hc0 => ?_)
  · have hr0 := hc0; (try simp only [hcs, Int.reduceToNat] at hc0)
    refine hw_region ?_
    refine stm rfl rfl rfl ?_
    refine stm rfl rfl rfl ?_
    refine st0 (hop_nilcheck_pt rfl) rfl rfl ?_
    refine st0 (hop_fa fd_129_1 rfl) rfl rfl ?_
    refine st1 (hol_load ty_3 rfl (nb rfl) (nb rfl) (fun h => (by rfl))) rfl rfl rfl ?_
    refine hf_callP (xs := [_, _, _]) (pre := [(9001, _)]) (stop_h _ _ _ _ _ _) ⟨rfl, ⟨rfl, ⟨rfl, trivial⟩⟩⟩ (preC rfl pre0) (fun y c1 hy => ?_)
    refine (hpan_then ?_)
    exact hf_panP ok hX y (by rw [hy]; unfold wrongV; rw [if_pos (by omega), hc0]) rfl (kz_fault _) ⟨⟨_, rfl, kz_rd⟩, trivial⟩
  have hr0 := hc0; (try simp only [hcs, Int.reduceToNat] at hc0)
  refine hw_skip ?_
  refine h1 _ ?_
  refine hw_region ?_
  refine stm rfl rfl rfl ?_
  refine stm rfl rfl rfl ?_
  refine st0 (hop_nilcheck_pt rfl) rfl rfl ?_
  refine st0 (hop_fa fd_129_1 rfl) rfl rfl ?_
  refine st1 (hol_load ty_3 rfl (nb rfl) (nb rfl) (fun h => (by rfl))) rfl rfl rfl ?_
  refine hf_callP (xs := [_, _, _]) (pre := [(9001, _)]) (stop_h _ _ _ _ _ _) ⟨rfl, ⟨rfl, ⟨rfl, trivial⟩⟩⟩ (preC rfl pre0) (fun y c2 hy => ?_)
  refine ?_
  exact hf_panP ok hX y (by rw [hy]; unfold wrongV; rw [if_neg (by omega)]) rfl (kz_fault _) ⟨⟨_, rfl, kz_rd⟩, trivial⟩
end Go.Proofs.YtmcchhmgchgaaaaDoor

namespace Go.Proofs.YtmcchhmgchgaaaaDoor
set_option linter.unusedSimpArgs false
set_option linter.unusedVariables false
set_option maxRecDepth 100000
open Go.RowKit

theorem sb_int {a b : Int} (h : a = b) : Sb (intV a) (intV b) := by subst h; exact .refl _
theorem osub2 {g ty fl : Nat} {f f' : Nat → Nat → HV} (h0 : Sb (f 0 0) (f' 0 0)) (h1 : Sb (f 0 1) (f' 0 1)) (hfn : fl ≤ 1 := by exact Nat.zero_le _) : OSub ⟨g, 1, 2, ty, fl, f⟩ ⟨g, 1, 2, ty, fl, f'⟩ := .of (hfn := hfn) fun i j hi hj => by
  obtain rfl : i = 0 := by omega
  match j, hj with | 0, _ => exact h0 | 1, _ => exact h1
theorem kz_int {kp sh : List (Nat × HObj)} {a b : Int} (h : a = b) : Kz kp sh (intV a) (intV b) := by subst h; exact .fz _ _ (.imm _)
theorem atoi_h (l : List UInt8) (v : Int) (hl : l.length ≤ 1000000) (h : Lib.atoiAll l = .ok v) : HPure Tryd.prog 32 [strV l] (t2 (intV v) (.imm .nilIface)) := by
  refine ⟨⟨_, _, Tryd.func32, rfl, by kernel_rfl⟩, fun w F vs hF hr hw => ?_⟩
  obtain ⟨u, rfl, hu⟩ := rep1 hr
  rw [hu.imm_inv]
  refine (Tryd.strconv_Atoi_ok ⟨l.toArray⟩ (by rw [ba_size]; omega) v h w).mono ?_
  rintro e w' ⟨rfl, hb⟩
  have hb := below_ok hb
  exact ⟨hb, _, F, rfl, fun _ h => h, fun _ h => .inl h, fun a ha => ⟨(hF a ha).1, by rw [World.cell?_of_block (hb.block _ (lt_of_cell (hF a ha).2))]; exact (hF a ha).2⟩,
    .tup _ 2 _ (fun i => match i with | 0 => .int .i64 v | _ => .nilIface) rfl (fun i hi => by match i, hi with | 0, _ => rfl | 1, _ => rfl) (fun i hi => by match i, hi with | 0, _ => exact .imm _ | 1, _ => exact .imm _)⟩
@[reducible] def NumP (g : Nat) (s : List UInt8) (i : Nat) (low : Int) : HEnd → List (Nat × HObj) → Nat → Prop :=
  RoP (fun (x : Int × Nat) _ => numR s i low = .ok x) (fun x => intV x.1) (fun x => [(9001, rdO g s x.2)]) (fun (y : (Int × Int) × Nat) _ => numR s i low = .error y.1) (fun y => faultV y.1) (fun y => [(9001, rdO g s y.2)])
theorem number_h (c g : Nat) (s : List UInt8) (i : Nat) (low : Int) (hs : s.length ≤ 1000000) (hi : i ≤ s.length) : HFun Tryd.prog 128 c [.pt 9001 g 0 0, intV low] [(9001, rdO g s i)] (NumP g s i low) := by
  refine hfun_of Tryd.func128 rfl (by kernel_rfl) _ _ _ _ rfl 81 rfl rfl (fun X ok hX => ?_)
  refine srg fun N h1 => ?_
  refine sta rfl rfl rfl ?_
  refine snl h1 ?_
  refine srg fun N h2 => ?_
  refine stm rfl rfl rfl ?_
  refine st0 (hop_nilcheck_pt rfl) rfl rfl ?_
  refine st0 (hop_fa fd_129_1 rfl) rfl rfl ?_
  refine st1 (hol_load ty_3 rfl (nb rfl) (nb rfl) (fun h => (by rfl))) rfl rfl rfl ?_
  refine sta rfl rfl rfl ?_
  refine snl h2 ?_
  refine hw_seq (fun Nh3 h3 => ?_)
  refine hw_block ?_
  refine hw_loopc (α := Nat) (fun x c => ⟨81, [(0, .v (.pt 9001 g 0 0)), (1, .v (intV low)), (4, .v (intV 0)), (5, .v (intV i))], [(9001, rdO g s (i + x))], c⟩) (fun x => x ≤ 2 ∧ i + x ≤ s.length ∧ (0 < x → digitZ (bz s i) = true) ∧ (1 < x → digitZ (bz s (i + 1)) = true ∧ bz s i ≠ 48)) (fun x => 3 - x) (0) (by exact ⟨by omega, by omega, fun h => absurd h (by omega), fun h => absurd h (by omega)⟩) (hsub_of rfl (Nat.le_refl _) (TmSub.cons rfl (Sb.refl _) (TmSub.cons rfl (Sb.refl _) (TmSub.cons rfl (Sb.refl _) (TmSub.cons rfl (Sb.refl _) TmSub.nil)))) (HpSub.cons rfl (OSub.refl _) HpSub.nil)) (fun k c hx NhL4 hL4 => ?_)
  (try dsimp only at hx hL4 ⊢)
  obtain ⟨hk, hik, hk0, hk1⟩ := hx
  refine hw_seq (fun Nh5 h5 => ?_)
  refine srg fun N h6 => ?_
  refine stm rfl rfl rfl ?_
  refine hq_ 13 (hop_funR (xs := [_]) (pre := [(9001, _)]) (peek_h g s (i + k) hs hik) ⟨rfl, trivial⟩) rfl rfl (preC rfl pre0) rfl rfl ?_
  refine st0 (hop_call0 (xs := [_]) (digit_h _) ⟨rfl, trivial⟩ ⟨(Fz.eq rfl), trivial⟩) rfl rfl ?_
  refine snl h6 ?_
  refine hw_cond _ rfl (fun hc0 => ?_) (fun hc0 => ?_)
  · have hr0 := hc0; (try simp only [hcs, Int.reduceToNat] at hc0)
    have hlt := digit_lt hc0
    refine hw_skip ?_
    refine h5 _ ?_
    refine hw_block ?_
    refine hw_seq (fun Nh7 h7 => ?_)
    refine srg fun N h8 => ?_
    refine stm rfl rfl rfl ?_
    refine st0 (hop_nilcheck_pt rfl) rfl rfl ?_
    refine st0 (hop_fa fd_129_1 rfl) rfl rfl ?_
    refine st1 (hol_load ty_3 rfl (nb rfl) (nb rfl) (fun h => (by rfl))) rfl rfl rfl ?_
    refine stm rfl rfl rfl ?_
    refine st0 (hop_subi rfl rfl rfl (by omega) (by omega)) rfl rfl ?_
    refine st0 (hop_eql rfl rfl) rfl rfl ?_
    refine stm rfl rfl rfl ?_
    refine stg 22 (fun hb => hop_move rfl) rfl rfl rfl rfl rfl ?_
    refine stg 22 (fun hb => hop_nilcheck_pt rfl) rfl rfl rfl rfl rfl ?_
    refine stg 22 (fun hb => hop_fa fd_129_1 rfl) rfl rfl rfl rfl rfl ?_
    refine hq_g 26 7 22 false _ (fun hb => hol_load ty_3 rfl (nb rfl) (nb rfl) (fun h => (by rfl))) rfl rfl rfl rfl (pre1 rfl) rfl rfl rfl ?_
    refine stg 22 (fun hb => hop_move rfl) rfl rfl rfl rfl rfl ?_
    refine stg 22 (fun hb => hop_gtr rfl rfl) rfl rfl rfl rfl rfl ?_
    refine stg 22 (fun hb => hop_move rfl) rfl rfl rfl rfl rfl ?_
    refine hq_g3 30 14 29 22 false true _ _ (fun hb hb2 => hop_move rfl) rfl rfl rfl rfl rfl pre0 rfl rfl rfl ?_
    refine hq_g3 31 14 29 22 false true _ _ (fun hb hb2 => hop_nilcheck_pt rfl) rfl rfl rfl rfl rfl pre0 rfl rfl rfl ?_
    refine hq_g3 32 14 29 22 false true _ _ (fun hb hb2 => hop_fa fd_129_0 rfl) rfl rfl rfl rfl rfl pre0 rfl rfl rfl ?_
    refine hq_g3 33 14 29 22 false true _ _ (fun hb hb2 => hol_load ty_9 rfl (nb rfl) (nb rfl) (fun h => (by rfl))) rfl rfl rfl rfl rfl (pre1 rfl) rfl rfl rfl ?_
    refine hq_g3 34 14 29 22 false true _ _ (fun hb hb2 => hop_move rfl) rfl rfl rfl rfl rfl pre0 rfl rfl rfl ?_
    refine hq_g3 35 14 29 22 false true _ _ (fun hb hb2 => hop_ix_strl (by kernel_rfl) rfl rfl (by simp at hb; omega) (by simp at hb; omega)) rfl rfl rfl rfl rfl pre0 rfl rfl rfl ?_
    refine hq_g3 36 14 29 22 false true _ _ (fun hb hb2 => hop_eql rfl rfl) rfl rfl rfl rfl rfl pre0 rfl rfl rfl ?_
    refine hq_pg 37 (hstep_andg (gi := 7) (j := 22) _ _ rfl rfl rfl rfl) rfl rfl rfl rfl ?_
    refine hq_p 38 (hstep_or _ _ rfl rfl rfl) rfl rfl rfl ?_
    refine hseq_nilU (by rfl) (by simp only [dropUn, slots]; exact rfl) ?_
    refine h8 _ ?_
    refine hw_cond _ rfl (fun hc1 => ?_) (fun hc1 => ?_)
    · have hr1 := hc1; (try simp only [hcs, Int.reduceToNat] at hc1)
      refine hw_region ?_
      refine stm rfl rfl rfl ?_
      refine hf_callP (xs := [_]) (pre := [(9001, _)]) (odd_h _ g s (i + k) hs hik) ⟨rfl, trivial⟩ (preC rfl pre0) (fun y c1 hy => ?_)
      refine (hpan_then (hpan_block (hpan_then (hpan_block (hpan_then ?_)))))
      exact hf_panR ok hX (y, i + k) (by rw [hy]; exact numR_err (num_stop hk hk0 hk1 hc0 (by rw [bz_in (show i < s.length by omega)]; omega))) rfl (kz_fault _) ⟨⟨_, rfl, kz_rd⟩, trivial⟩
    have hr1 := hc1; (try simp only [hcs, Int.reduceToNat] at hc1)
    refine hw_skip ?_
    refine h7 _ ?_
    refine hw_region ?_
    refine stm rfl rfl rfl ?_
    refine st0 (hop_nilcheck_pt rfl) rfl rfl ?_
    refine st0 (hop_fa fd_129_1 rfl) rfl rfl ?_
    refine st1 (hol_load ty_3 rfl (nb rfl) (nb rfl) (fun h => (by rfl))) rfl rfl rfl ?_
    refine st0 (hop_addi rfl rfl rfl (by omega) (by omega)) rfl rfl ?_
    refine st0 (hop_nilcheck_pt rfl) rfl rfl ?_
    refine st0 (hop_fa fd_129_1 rfl) rfl rfl ?_
    refine hm_s1 (hol_store ty_3 rfl rfl rfl rfl (nb rfl) (nb rfl) (nb rfl)) rfl rfl (pre1 rfl) (c' := c + 1) rfl ?_
    refine hseq_nil ?_
    refine hq_block ?_
    exact hL4 (k + 1) _ _ (by (try dsimp only); exact num_next hk hk0 hk1 hc0 (by rw [bz_in (show i < s.length by omega)]; simp only [Bool.and_eq_false_iff, decide_eq_false_iff_not, beq_eq_false_iff_ne] at hc1; omega)) (by (try dsimp only); omega) (hsub_of rfl (Nat.le_refl _) (TmSub.cons rfl (Sb.refl _) (TmSub.cons rfl (Sb.refl _) (TmSub.cons rfl (Sb.refl _) (TmSub.cons rfl (Sb.refl _) TmSub.nil)))) (HpSub.cons rfl (osub2 (.refl _) (sb_int (by omega))) HpSub.nil))
  have hr0 := hc0; (try simp only [hcs, Int.reduceToNat] at hc0)
  refine hw_exit ?_
  refine hq_then_exit ?_
  refine hq_then_exit ?_
  refine hq_block_here ?_
  refine h3 _ ?_
  refine hw_seq (fun Nh9 h9 => ?_)
  refine srg fun N h10 => ?_
  refine stm rfl rfl rfl ?_
  refine st0 (hop_nilcheck_pt rfl) rfl rfl ?_
  refine st0 (hop_fa fd_129_1 rfl) rfl rfl ?_
  refine st1 (hol_load ty_3 rfl (nb rfl) (nb rfl) (fun h => (by rfl))) rfl rfl rfl ?_
  refine stm rfl rfl rfl ?_
  refine st0 (hop_eql rfl rfl) rfl rfl ?_
  refine snl h10 ?_
  refine hw_cond _ rfl (fun hc2 => ?_) (fun hc2 => ?_)
  · have hr2 := hc2; (try simp only [hcs, Int.reduceToNat] at hc2)
    refine hw_region ?_
    refine stm rfl rfl rfl ?_
    refine hf_callP (xs := [_]) (pre := [(9001, _)]) (odd_h _ g s (i + k) hs hik) ⟨rfl, trivial⟩ (preC rfl pre0) (fun y c2 hy => ?_)
    refine (hpan_then ?_)
    obtain rfl : k = 0 := (by omega); exact hf_panR ok hX (y, i + 0) (by rw [hy]; exact numR_err (num_zero hc0)) rfl (kz_fault _) ⟨⟨_, rfl, kz_rd⟩, trivial⟩
  have hr2 := hc2; (try simp only [hcs, Int.reduceToNat] at hc2)
  obtain ⟨v, hv, hnum, hv0, hv1⟩ := num_val hk (by omega) hk0 hk1 hc0
  refine hw_skip ?_
  refine h9 _ ?_
  refine hw_seq (fun Nh11 h11 => ?_)
  refine hd_start ?_
  refine hd_q 57 (hop_move rfl) rfl rfl pre0 rfl rfl (k' := 1) rfl ?_
  refine hd_q 58 (hop_nilcheck_pt rfl) rfl rfl pre0 rfl rfl (k' := 2) rfl ?_
  refine hd_q 59 (hop_fa fd_129_0 rfl) rfl rfl pre0 rfl rfl (k' := 3) rfl ?_
  refine hd_q 60 (hol_load ty_9 rfl (nb rfl) (nb rfl) (fun h => (by rfl))) rfl rfl (pre1 rfl) rfl rfl (k' := 4) rfl ?_
  refine hd_q 61 (hop_move rfl) rfl rfl pre0 rfl rfl (k' := 5) rfl ?_
  refine hd_q 62 (hop_move rfl) rfl rfl pre0 rfl rfl (k' := 6) rfl ?_
  refine hd_q 63 (hop_nilcheck_pt rfl) rfl rfl pre0 rfl rfl (k' := 7) rfl ?_
  refine hd_q 64 (hop_fa fd_129_1 rfl) rfl rfl pre0 rfl rfl (k' := 8) rfl ?_
  refine hd_q 65 (hol_load ty_3 rfl (nb rfl) (nb rfl) (fun h => (by rfl))) rfl rfl (pre1 rfl) rfl rfl (k' := 9) rfl ?_
  refine hd_q 66 (hop_cut_strl (by kernel_rfl) rfl (.inr ⟨_, _, rfl, rfl⟩) (.inr ⟨_, _, rfl, rfl⟩) (by omega) (by omega) (by omega)) rfl rfl pre0 rfl rfl (k' := 10) rfl ?_
  refine hd_q 67 (hop_call0 (xs := [_]) (atoi_h _ v (by simp; omega) hv) ⟨rfl, trivial⟩ ⟨(Fz.eq rfl), trivial⟩) rfl rfl pre0 rfl rfl (k' := 11) rfl ?_
  refine hd_q 56 (hop_move rfl) rfl rfl pre0 rfl rfl (k' := 12) rfl ?_
  refine hd_q 68 (hop_extract rfl rfl) rfl rfl pre0 rfl rfl (k' := 13) rfl ?_
  refine hd_q 69 (hop_extract rfl rfl) rfl rfl pre0 rfl rfl (k' := 14) rfl ?_
  refine hd_q 6 (hop_assign rfl) rfl rfl pre0 rfl rfl (k' := 15) rfl ?_
  refine hd_q 7 (hop_assign rfl) rfl rfl pre0 rfl rfl (k' := 16) rfl ?_
  refine hd_nil (by kernel_rfl) (by kernel_rfl) (c' := c + 16) rfl ?_
  refine h11 _ ?_
  refine hw_seq (fun Nh12 h12 => ?_)
  refine srg fun N h13 => ?_
  refine stm rfl rfl rfl ?_
  refine stm rfl rfl rfl ?_
  refine st0 (hop_lss rfl rfl) rfl rfl ?_
  refine stm rfl rfl rfl ?_
  refine stg 73 (fun hb => hop_move rfl) rfl rfl rfl rfl rfl ?_
  refine stg 73 (fun hb => hop_gtr rfl rfl) rfl rfl rfl rfl rfl ?_
  refine hq_p 76 (hstep_or _ _ rfl rfl rfl) rfl rfl rfl ?_
  refine hseq_nilU (by rfl) (by simp only [dropUn, slots]; exact rfl) ?_
  refine h13 _ ?_
  refine hw_cond _ rfl (fun hc3 => ?_) (fun hc3 => ?_)
  · have hr3 := hc3; (try simp only [hcs, Int.reduceToNat] at hc3)
    refine hw_region ?_
    refine stm rfl rfl rfl ?_
    refine stm rfl rfl rfl ?_
    refine hf_callP (xs := [_, _, _]) (pre := [(9001, _)]) (stop_h _ _ _ _ _ _) ⟨rfl, ⟨rfl, ⟨rfl, trivial⟩⟩⟩ (preC rfl pre0) (fun y c3 hy => ?_)
    refine (hpan_then ?_)
    exact hf_panR ok hX (y, i + k) (by rw [hy]; exact numR_range hnum (by simpa using hc3)) rfl (kz_fault _) ⟨⟨_, rfl, kz_rd⟩, trivial⟩
  have hr3 := hc3; (try simp only [hcs, Int.reduceToNat] at hc3)
  refine hw_skip ?_
  refine h12 _ ?_
  refine srg fun N h14 => ?_
  refine stm rfl rfl rfl ?_
  refine sta rfl rfl rfl ?_
  refine snl h14 ?_
  refine hw_ret ?_
  refine hf_retR1 ok hX RetS.two rfl (rval_tmp rfl) [] rfl pre0 ((v, i + k)) (numR_ok hnum (by simpa using hc3)) (by rfl) (by rfl) ((by first | exact .fz _ _ (.imm _) | exact .os _ _ _ _ _ rfl rfl | exact .pt _ _ _ _ _ rfl rfl | exact .nps _ _ _ rfl rfl | (dsimp only; exact .fz _ _ Frz.fz) | exact .fz _ _ (.tup 0 _ _ (fun i hi => absurd hi (Nat.not_lt_zero _))))) ?_
  exact ⟨⟨_, rfl, kz_rd⟩, trivial⟩
@[reducible] def sgF (x : Sg) : Nat → HV := fun j => match j with | 0 => intV x.kind | 1 => intV x.at_ | 2 => intV x.low | 3 => intV x.high | _ => strV x.name
@[reducible] def sgH (x : Sg) : HV := .agg 5 (sgF x)
@[reducible] def SgP (R : Except (Int × Int) (Sg × Nat)) (g : Nat) (s : List UInt8) : HEnd → List (Nat × HObj) → Nat → Prop :=
  RoP (fun (x : Sg × Nat) _ => R = .ok x) (fun x => sgH x.1) (fun x => [(9001, rdO g s x.2)]) (fun (y : (Int × Int) × Nat) _ => R = .error y.1) (fun y => faultV y.1) (fun y => [(9001, rdO g s y.2)])
theorem kz_int5 {kp sh : List (Nat × HObj)} {f f' : Nat → HV} (h0 : Kz kp sh (f 0) (f' 0)) (h1 : Kz kp sh (f 1) (f' 1)) (h2 : Kz kp sh (f 2) (f' 2)) (h3 : Kz kp sh (f 3) (f' 3)) (h4 : Kz kp sh (f 4) (f' 4)) : Kz kp sh (.agg 5 f) (.agg 5 f') := .agg _ _ _ fun i hi => by
  match i, hi with
  | 0, _ => exact h0
  | 1, _ => exact h1
  | 2, _ => exact h2
  | 3, _ => exact h3
  | 4, _ => exact h4
theorem kz_imm {kp sh : List (Nat × HObj)} {v : Value} : Kz kp sh (.imm v) (.imm v) := .fz _ _ (.imm _)
theorem count_h (c g : Nat) (s : List UInt8) (i : Nat) (hs : s.length ≤ 1000000) (hi : i < s.length) : HFun Tryd.prog 111 c [.pt 9001 g 0 0] [(9001, rdO g s i)] (SgP (countR s i) g s) := by
  refine hfun_of Tryd.func111 rfl (by kernel_rfl) _ _ _ _ rfl 71 rfl rfl (fun X ok hX => ?_)
  refine srg fun N h1 => ?_
  refine hm_1 2 (hop_alloc (id := 2) (sz := 5) zc_108 rfl rfl (nb rfl) (nb rfl)) rfl rfl pre0 rfl rfl (c' := c + 1) rfl ?_
  refine snl h1 ?_
  refine srg fun N h2 => ?_
  refine stm rfl rfl rfl ?_
  refine st0 (hop_nilcheck_pt rfl) rfl rfl ?_
  refine st0 (hop_fa fd_129_1 rfl) rfl rfl ?_
  refine st1 (hol_load ty_3 rfl (nb rfl) (nb rfl) (fun h => (by rfl))) rfl rfl rfl ?_
  refine st0 (hop_build (hs := [(0, 1, _), (1, 1, _)]) st_108 rfl rfl ⟨rfl, rfl, rfl, rfl, rfl, ⟨rfl, rfl, rfl, rfl, rfl, trivial⟩⟩) rfl rfl ?_
  refine hm_1 3 (hop_alloc (id := 3) (sz := 5) zc_108 rfl rfl (nb rfl) (nb rfl)) rfl rfl pre0 rfl rfl (c' := c + 2) rfl ?_
  refine hm_s1 (hol_storeW ty_108 rfl rfl rfl rfl) rfl rfl (pre1 rfl) (c' := c + 3) rfl ?_
  refine snl h2 ?_
  refine srg fun N h3 => ?_
  refine stm rfl rfl rfl ?_
  refine st0 (hop_nilcheck_pt rfl) rfl rfl ?_
  refine st0 (hop_fa fd_129_1 rfl) rfl rfl ?_
  refine st1 (hol_load ty_3 rfl (nb rfl) (nb rfl) (fun h => (by rfl))) rfl rfl rfl ?_
  refine st0 (hop_addi rfl rfl rfl (by omega) (by omega)) rfl rfl ?_
  refine st0 (hop_nilcheck_pt rfl) rfl rfl ?_
  refine st0 (hop_fa fd_129_1 rfl) rfl rfl ?_
  refine hm_s1 (hol_store ty_3 rfl rfl rfl rfl (nb rfl) (nb rfl) (nb rfl)) rfl rfl (pre1 rfl) (c' := c + 4) rfl ?_
  refine snl h3 ?_
  refine hw_seq (fun Nh4 h4 => ?_)
  refine (hsub_ob 9001 (rdO g s (i + 1)) rfl (by exact osub2 (.refl _) (sb_int (by omega)))).wp ?_
  refine hw_region ?_
  refine stm rfl rfl rfl ?_
  refine st0 (hop_nilcheck_pt rfl) rfl rfl ?_
  refine st0 (hop_fa fd_129_1 rfl) rfl rfl ?_
  refine st1 (hol_load ty_3 rfl (nb rfl) (nb rfl) (fun h => (by rfl))) rfl rfl rfl ?_
  refine sta rfl rfl rfl ?_
  refine snl h4 ?_
  refine srg fun N h5 => ?_
  refine stm rfl rfl rfl ?_
  refine hf_callRP 22 (xs := [_, _]) (pre := [(9001, _)]) (number_h _ g s (i + 1) 0 hs (by omega)) ⟨rfl, ⟨rfl, trivial⟩⟩ (preC rfl pre0) rfl rfl (fun y c1 hy => (hpan_then (hf_panR ok hX y (by unfold countR; rw [hy]) rfl (kz_fault _) ⟨⟨_, rfl, kz_rd⟩, trivial⟩))) (fun x1 c1 hn => ?_)
  obtain ⟨n, p⟩ := x1
  (try dsimp only)
  refine st0 (hop_fa fd_108_2 rfl) rfl rfl ?_
  refine hm_s1 (hol_store ty_3 rfl rfl rfl rfl (nb rfl) (nb rfl) (nb rfl)) rfl rfl (pre1 rfl) (c' := c1 + 1) rfl ?_
  refine snl h5 ?_
  refine hw_seq (fun Nh6 h6 => ?_)
  have hnp := numR_le (by omega) hn
  refine hw_region ?_
  refine st0 (hop_fa fd_108_2 rfl) rfl rfl ?_
  refine st1 (hol_load ty_3 rfl (nb rfl) (nb rfl) (fun h => (by rfl))) rfl rfl rfl ?_
  refine st0 (hop_fa fd_108_3 rfl) rfl rfl ?_
  refine hm_s1 (hol_store ty_3 rfl rfl rfl rfl (nb rfl) (nb rfl) (nb rfl)) rfl rfl (pre1 rfl) (c' := c1 + 2) rfl ?_
  refine snl h6 ?_
  refine hw_seq (fun Nh7 h7 => ?_)
  refine srg fun N h8 => ?_
  refine stm rfl rfl rfl ?_
  refine hq_ 28 (hop_funR (xs := [_]) (pre := [(9001, _)]) (peek_h g s p hs hnp.1) ⟨rfl, trivial⟩) rfl rfl (preC rfl pre0) rfl rfl ?_
  refine st0 (hop_eql rfl rfl) rfl rfl ?_
  refine snl h8 ?_
  refine hw_cond _ rfl (fun hc0 => ?_) (fun hc0 => ?_)
  · have hr0 := hc0; (try simp only [hcs, Int.reduceToNat] at hc0)
    have hlt := bz_lt (s := s) (i := p) (by omega)
    refine srg fun N h9 => ?_
    refine stm rfl rfl rfl ?_
    refine st0 (hop_nilcheck_pt rfl) rfl rfl ?_
    refine st0 (hop_fa fd_129_1 rfl) rfl rfl ?_
    refine st1 (hol_load ty_3 rfl (nb rfl) (nb rfl) (fun h => (by rfl))) rfl rfl rfl ?_
    refine st0 (hop_addi rfl rfl rfl (by omega) (by omega)) rfl rfl ?_
    refine st0 (hop_nilcheck_pt rfl) rfl rfl ?_
    refine st0 (hop_fa fd_129_1 rfl) rfl rfl ?_
    refine hm_s1 (hol_store ty_3 rfl rfl rfl rfl (nb rfl) (nb rfl) (nb rfl)) rfl rfl (pre1 rfl) (c' := c1 + 3) rfl ?_
    refine snl h9 ?_
    refine srg fun N h10 => ?_
    refine st0 (hop_fa fd_108_3 rfl) rfl rfl ?_
    refine hm_s1 (hol_store ty_3 rfl rfl rfl rfl (nb rfl) (nb rfl) (nb rfl)) rfl rfl (pre1 rfl) (c' := c1 + 4) rfl ?_
    refine snl h10 ?_
    refine hw_seq (fun Nh11 h11 => ?_)
    refine (hsub_ob 9001 (rdO g s (p + 1)) rfl (by exact osub2 (.refl _) (sb_int (by omega)))).wp ?_
    refine hw_region ?_
    refine stm rfl rfl rfl ?_
    refine hq_ 39 (hop_funR (xs := [_]) (pre := [(9001, _)]) (peek_h g s (p + 1) hs hlt) ⟨rfl, trivial⟩) rfl rfl (preC rfl pre0) rfl rfl ?_
    refine st0 (hop_neq rfl rfl) rfl rfl ?_
    refine snl h11 ?_
    refine hw_cond _ rfl (fun hc1 => ?_) (fun hc1 => ?_)
    · have hr1 := hc1; (try simp only [hcs, Int.reduceToNat] at hc1)
      refine hw_region ?_
      refine stm rfl rfl rfl ?_
      refine st0 (hop_fa fd_108_2 rfl) rfl rfl ?_
      refine st1 (hol_load ty_3 rfl (nb rfl) (nb rfl) (fun h => (by rfl))) rfl rfl rfl ?_
      refine st0 (hop_max rfl rfl) rfl rfl ?_
      refine hf_callRP 45 (xs := [_, _]) (pre := [(9001, _)]) (number_h _ g s (p + 1) (if 1 > n then 1 else n) hs hlt) ⟨rfl, ⟨rfl, trivial⟩⟩ (preC rfl pre0) rfl rfl (fun y c2 hy => (hpan_then (hf_panR ok hX y (by unfold countR; rw [hn]; simp only; rw [if_pos hc0, if_neg hc1, hy]) rfl (kz_fault _) ⟨⟨_, rfl, kz_rd⟩, trivial⟩))) (fun x2 c2 hm => ?_)
      obtain ⟨m, q⟩ := x2
      (try dsimp only)
      refine st0 (hop_fa fd_108_3 rfl) rfl rfl ?_
      refine hm_s1 (hol_store ty_3 rfl rfl rfl rfl (nb rfl) (nb rfl) (nb rfl)) rfl rfl (pre1 rfl) (c' := c2 + 1) rfl ?_
      refine snl h7 ?_
      refine hw_seq (fun Nh12 h12 => ?_)
      refine hw_seq (fun Nh13 h13 => ?_)
      have hmq := numR_le hlt hm
      refine hw_region ?_
      refine stm rfl rfl rfl ?_
      refine hq_ 59 (hop_funR (xs := [_]) (pre := [(9001, _)]) (peek_h g s q hs hmq.1) ⟨rfl, trivial⟩) rfl rfl (preC rfl pre0) rfl rfl ?_
      refine st0 (hop_neq rfl rfl) rfl rfl ?_
      refine snl h13 ?_
      refine hw_cond _ rfl (fun hc3 => ?_) (fun hc3 => ?_)
      · have hr3 := hc3; (try simp only [hcs, Int.reduceToNat] at hc3)
        refine hw_region ?_
        refine stm rfl rfl rfl ?_
        refine hf_callP (xs := [_]) (pre := [(9001, _)]) (odd_h _ g s q hs hmq.1) ⟨rfl, trivial⟩ (preC rfl pre0) (fun y c3 hy => ?_)
        refine (hpan_then ?_)
        exact hf_panR ok hX (y, q) (by rw [hy]; unfold countR; rw [hn]; simp only; rw [if_pos hc0, if_neg hc1, hm]; simp only; rw [if_neg hc3]) rfl (kz_fault _) ⟨⟨_, rfl, kz_rd⟩, trivial⟩
      have hr3 := hc3; (try simp only [hcs, Int.reduceToNat] at hc3)
      refine hw_skip ?_
      refine h12 _ ?_
      refine srg fun N h14 => ?_
      refine stm rfl rfl rfl ?_
      refine st0 (hop_nilcheck_pt rfl) rfl rfl ?_
      refine st0 (hop_fa fd_129_1 rfl) rfl rfl ?_
      refine st1 (hol_load ty_3 rfl (nb rfl) (nb rfl) (fun h => (by rfl))) rfl rfl rfl ?_
      refine st0 (hop_addi rfl rfl rfl (by omega) (by omega)) rfl rfl ?_
      refine st0 (hop_nilcheck_pt rfl) rfl rfl ?_
      refine st0 (hop_fa fd_129_1 rfl) rfl rfl ?_
      refine hm_s1 (hol_store ty_3 rfl rfl rfl rfl (nb rfl) (nb rfl) (nb rfl)) rfl rfl (pre1 rfl) (c' := c2 + 2) rfl ?_
      refine snl h14 ?_
      refine srg fun N h15 => ?_
      refine st1 (hol_load ty_108 rfl (nb rfl) (nb rfl) (fun h => (by cases h))) rfl rfl rfl ?_
      refine hm_s1 (hol_storeW ty_108 rfl rfl rfl rfl) rfl rfl (pre1 rfl) (c' := c2 + 3) rfl ?_
      refine snl h15 ?_
      refine hw_ret ?_
      refine hf_retR1 ok hX RetS.two rfl (rvl_cell rfl rfl ty_108 (fun h => by first | rfl | cases h) rfl rfl) [] rfl pre0 ((⟨5, i, n, m, []⟩, q + 1)) (by unfold countR; rw [hn]; simp only; rw [if_pos hc0, if_neg hc1, hm]; simp only; rw [if_pos hc3]) (by rfl) (by rfl) (kz_int5 kz_imm kz_imm kz_imm kz_imm kz_imm) ?_
      exact ⟨⟨_, rfl, okz2 (by first | exact .fz _ _ (.imm _) | exact .os _ _ _ _ _ rfl rfl | exact .pt _ _ _ _ _ rfl rfl | exact .nps _ _ _ rfl rfl | (dsimp only; exact .fz _ _ Frz.fz) | exact .fz _ _ (.tup 0 _ _ (fun i hi => absurd hi (Nat.not_lt_zero _)))) (kz_int (by omega))⟩, trivial⟩
    have hr1 := hc1; (try simp only [hcs, Int.reduceToNat] at hc1)
    refine hw_skip ?_
    refine h7 _ ?_
    refine hw_seq (fun Nh16 h16 => ?_)
    refine srg fun N h17 => ?_
    refine stm rfl rfl rfl ?_
    refine hq_ 59 (hop_funR (xs := [_]) (pre := [(9001, _)]) (peek_h g s (p + 1) hs hlt) ⟨rfl, trivial⟩) rfl rfl (preC rfl pre0) rfl rfl ?_
    refine st0 (hop_neq rfl rfl) rfl rfl ?_
    refine snl h17 ?_
    refine hw_cond _ rfl (fun hc3 => ?_) (fun hc3 => ?_)
    · have hr3 := hc3; (try simp only [hcs, Int.reduceToNat] at hc3)
      exfalso; exact hc3 hc1
    have hr3 := hc3; (try simp only [hcs, Int.reduceToNat] at hc3)
    refine hw_skip ?_
    refine h16 _ ?_
    refine srg fun N h18 => ?_
    refine stm rfl rfl rfl ?_
    refine st0 (hop_nilcheck_pt rfl) rfl rfl ?_
    refine st0 (hop_fa fd_129_1 rfl) rfl rfl ?_
    refine st1 (hol_load ty_3 rfl (nb rfl) (nb rfl) (fun h => (by rfl))) rfl rfl rfl ?_
    refine st0 (hop_addi rfl rfl rfl (by omega) (by omega)) rfl rfl ?_
    refine st0 (hop_nilcheck_pt rfl) rfl rfl ?_
    refine st0 (hop_fa fd_129_1 rfl) rfl rfl ?_
    refine hm_s1 (hol_store ty_3 rfl rfl rfl rfl (nb rfl) (nb rfl) (nb rfl)) rfl rfl (pre1 rfl) (c' := c1 + 5) rfl ?_
    refine snl h18 ?_
    refine srg fun N h19 => ?_
    refine st1 (hol_load ty_108 rfl (nb rfl) (nb rfl) (fun h => (by cases h))) rfl rfl rfl ?_
    refine hm_s1 (hol_storeW ty_108 rfl rfl rfl rfl) rfl rfl (pre1 rfl) (c' := c1 + 6) rfl ?_
    refine snl h19 ?_
    refine hw_ret ?_
    refine hf_retR1 ok hX RetS.two rfl (rvl_cell rfl rfl ty_108 (fun h => by first | rfl | cases h) rfl rfl) [] rfl pre0 ((⟨5, i, n, -1, []⟩, p + 2)) (by unfold countR; rw [hn]; simp only; rw [if_pos hc0, if_pos hc1]) (by rfl) (by rfl) (kz_int5 kz_imm kz_imm kz_imm kz_imm kz_imm) ?_
    exact ⟨⟨_, rfl, okz2 (by first | exact .fz _ _ (.imm _) | exact .os _ _ _ _ _ rfl rfl | exact .pt _ _ _ _ _ rfl rfl | exact .nps _ _ _ rfl rfl | (dsimp only; exact .fz _ _ Frz.fz) | exact .fz _ _ (.tup 0 _ _ (fun i hi => absurd hi (Nat.not_lt_zero _)))) (kz_int (by omega))⟩, trivial⟩
  have hr0 := hc0; (try simp only [hcs, Int.reduceToNat] at hc0)
  refine srg fun N h20 => ?_
  refine stm rfl rfl rfl ?_
  refine hq_ 48 (hop_funR (xs := [_]) (pre := [(9001, _)]) (peek_h g s p hs hnp.1) ⟨rfl, trivial⟩) rfl rfl (preC rfl pre0) rfl rfl ?_
  refine st0 (hop_eql rfl rfl) rfl rfl ?_
  refine stm rfl rfl rfl ?_
  refine stg 50 (fun hb => hop_fa fd_108_2 rfl) rfl rfl rfl rfl rfl ?_
  refine hq_g 52 3 50 true _ (fun hb => hol_load ty_3 rfl (nb rfl) (nb rfl) (fun h => (by rfl))) rfl rfl rfl rfl (pre1 rfl) rfl rfl rfl ?_
  refine stg 50 (fun hb => hop_eql rfl rfl) rfl rfl rfl rfl rfl ?_
  refine hq_p 54 (hstep_and _ _ rfl rfl rfl) rfl rfl rfl ?_
  refine hseq_nilU (by rfl) (by simp only [dropUn, slots]; exact rfl) ?_
  refine h20 _ ?_
  refine hw_cond _ rfl (fun hc2 => ?_) (fun hc2 => ?_)
  · have hr2 := hc2; (try simp only [hcs, Int.reduceToNat] at hc2)
    refine hw_region ?_
    refine stm rfl rfl rfl ?_
    refine stm rfl rfl rfl ?_
    refine hf_callP (xs := [_, _, _]) (pre := [(9001, _)]) (stop_h _ _ _ _ _ _) ⟨rfl, ⟨rfl, ⟨rfl, trivial⟩⟩⟩ (preC rfl pre0) (fun y c4 hy => ?_)
    refine (hpan_then ?_)
    exact hf_panR ok hX (y, p) (by rw [hy]; unfold countR; rw [hn]; simp only; rw [if_neg hc0, if_pos hc2.1, if_pos hc2.2]) rfl (kz_fault _) ⟨⟨_, rfl, kz_rd⟩, trivial⟩
  have hr2 := hc2; (try simp only [hcs, Int.reduceToNat] at hc2)
  refine hw_skip ?_
  refine h7 _ ?_
  refine hw_seq (fun Nh21 h21 => ?_)
  refine srg fun N h22 => ?_
  refine stm rfl rfl rfl ?_
  refine hq_ 59 (hop_funR (xs := [_]) (pre := [(9001, _)]) (peek_h g s p hs hnp.1) ⟨rfl, trivial⟩) rfl rfl (preC rfl pre0) rfl rfl ?_
  refine st0 (hop_neq rfl rfl) rfl rfl ?_
  refine snl h22 ?_
  refine hw_cond _ rfl (fun hc3 => ?_) (fun hc3 => ?_)
  · have hr3 := hc3; (try simp only [hcs, Int.reduceToNat] at hc3)
    refine hw_region ?_
    refine stm rfl rfl rfl ?_
    refine hf_callP (xs := [_]) (pre := [(9001, _)]) (odd_h _ g s p hs hnp.1) ⟨rfl, trivial⟩ (preC rfl pre0) (fun y c5 hy => ?_)
    refine (hpan_then ?_)
    exact hf_panR ok hX (y, p) (by rw [hy]; unfold countR; rw [hn]; simp only; rw [if_neg hc0, if_neg hc3]) rfl (kz_fault _) ⟨⟨_, rfl, kz_rd⟩, trivial⟩
  have hr3 := hc3; (try simp only [hcs, Int.reduceToNat] at hc3)
  refine hw_skip ?_
  refine h21 _ ?_
  refine srg fun N h23 => ?_
  refine stm rfl rfl rfl ?_
  refine st0 (hop_nilcheck_pt rfl) rfl rfl ?_
  refine st0 (hop_fa fd_129_1 rfl) rfl rfl ?_
  refine st1 (hol_load ty_3 rfl (nb rfl) (nb rfl) (fun h => (by rfl))) rfl rfl rfl ?_
  refine st0 (hop_addi rfl rfl rfl (by omega) (by omega)) rfl rfl ?_
  refine st0 (hop_nilcheck_pt rfl) rfl rfl ?_
  refine st0 (hop_fa fd_129_1 rfl) rfl rfl ?_
  refine hm_s1 (hol_store ty_3 rfl rfl rfl rfl (nb rfl) (nb rfl) (nb rfl)) rfl rfl (pre1 rfl) (c' := c1 + 3) rfl ?_
  refine snl h23 ?_
  refine srg fun N h24 => ?_
  refine st1 (hol_load ty_108 rfl (nb rfl) (nb rfl) (fun h => (by cases h))) rfl rfl rfl ?_
  refine hm_s1 (hol_storeW ty_108 rfl rfl rfl rfl) rfl rfl (pre1 rfl) (c' := c1 + 4) rfl ?_
  refine snl h24 ?_
  refine hw_ret ?_
  refine hf_retR1 ok hX RetS.two rfl (rvl_cell rfl rfl ty_108 (fun h => by first | rfl | cases h) rfl rfl) [] rfl pre0 ((⟨5, i, n, n, []⟩, p + 1)) (by unfold countR; rw [hn]; simp only; rw [if_neg hc0, if_pos hc3, if_neg (fun h0 => by rw [hc3, h0] at hr2; exact absurd hr2 (by decide))]) (by rfl) (by rfl) (kz_int5 kz_imm kz_imm kz_imm kz_imm kz_imm) ?_
  exact ⟨⟨_, rfl, okz2 (by first | exact .fz _ _ (.imm _) | exact .os _ _ _ _ _ rfl rfl | exact .pt _ _ _ _ _ rfl rfl | exact .nps _ _ _ rfl rfl | (dsimp only; exact .fz _ _ Frz.fz) | exact .fz _ _ (.tup 0 _ _ (fun i hi => absurd hi (Nat.not_lt_zero _)))) (kz_int (by omega))⟩, trivial⟩
end Go.Proofs.YtmcchhmgchgaaaaDoor

namespace Go.Proofs.YtmcchhmgchgaaaaDoor
set_option linter.unusedSimpArgs false
set_option linter.unusedVariables false
set_option maxRecDepth 100000
open Go.RowKit

@[reducible] def sg0 : Nat → Nat → HV := fun _ j => .imm (([.int .i64 0, .int .i64 0, .int .i64 0, .int .i64 0, .string ByteArray.empty] : List Value).getD j undef)
theorem name_h (c0 g : Nat) (s : List UInt8) (i : Nat) (hs : s.length ≤ 1000000) (hi : smallZ (bz s i) = true) : HFun Tryd.prog 110 c0 [.pt 9001 g 0 0] [(9001, rdO g s i)] (SgP (nameR s i) g s) := by
  have hil := small_lt hi
  refine hfun_of Tryd.func110 rfl (by kernel_rfl) _ _ _ _ rfl 52 rfl rfl (fun X ok hX => ?_)
  refine srg fun N h1 => ?_
  refine hm_1 2 (hop_alloc (id := 2) (sz := 5) zc_108 rfl rfl (nb rfl) (nb rfl)) rfl rfl pre0 rfl rfl (c' := c0 + 1) rfl ?_
  refine snl h1 ?_
  refine srg fun N h2 => ?_
  refine stm rfl rfl rfl ?_
  refine st0 (hop_nilcheck_pt rfl) rfl rfl ?_
  refine st0 (hop_fa fd_129_1 rfl) rfl rfl ?_
  refine st1 (hol_load ty_3 rfl (nb rfl) (nb rfl) (fun h => (by rfl))) rfl rfl rfl ?_
  refine sta rfl rfl rfl ?_
  refine snl h2 ?_
  refine hw_seq (fun Nh3 h3 => ?_)
  refine hw_block ?_
  refine hw_loopc (α := Nat) (fun x c => ⟨52, [(0, .v (.pt 9001 g 0 0)), (2, .v (.pt 2 c0 0 0)), (3, .v (intV i))], [(9001, rdO g s (i + x)), (2, ⟨c0, 1, 5, 108, 0, sg0⟩)], c⟩) (fun x => x ≤ 12 ∧ i + x ≤ s.length ∧ (∀ j, j < x → alnumZ (bz s (i + j)) = true)) (fun x => 12 - x) (0) (by exact ⟨by omega, by omega, fun j h => absurd h (by omega)⟩) (hsub_of rfl (Nat.le_refl _) (TmSub.cons rfl (Sb.refl _) (TmSub.cons rfl (Sb.refl _) (TmSub.cons rfl (Sb.refl _) TmSub.nil))) (HpSub.cons rfl (OSub.refl _) (HpSub.cons rfl (OSub.refl _) HpSub.nil))) (fun k c hx NhL4 hL4 => ?_)
  (try dsimp only at hx hL4 ⊢)
  obtain ⟨hk, hik, hal⟩ := hx
  refine hw_seq (fun Nh5 h5 => ?_)
  refine srg fun N h6 => ?_
  refine stm rfl rfl rfl ?_
  refine hq_ 9 (hop_funR (xs := [_]) (pre := [(9001, _)]) (peek_h g s (i + k) hs hik) ⟨rfl, trivial⟩) rfl rfl (preC rfl pre0) rfl rfl ?_
  refine st0 (hop_call0 (xs := [_]) (small_h _) ⟨rfl, trivial⟩ ⟨(Fz.eq rfl), trivial⟩) rfl rfl ?_
  refine stm rfl rfl rfl ?_
  refine stg 11 (fun hb => hop_move rfl) rfl rfl rfl rfl rfl ?_
  refine stg 11 (fun hb => hop_nilcheck_pt rfl) rfl rfl rfl rfl rfl ?_
  refine stg 11 (fun hb => hop_fa fd_129_1 rfl) rfl rfl rfl rfl rfl ?_
  refine hq_g 15 3 11 false _ (fun hb => hol_load ty_3 rfl (nb rfl) (nb rfl) (fun h => (by rfl))) rfl rfl rfl rfl (pre1 rfl) rfl rfl rfl ?_
  refine stg 11 (fun hb => hop_move rfl) rfl rfl rfl rfl rfl ?_
  refine stg 11 (fun hb => hop_gtr rfl rfl) rfl rfl rfl rfl rfl ?_
  refine stg 11 (fun hb => hop_move rfl) rfl rfl rfl rfl rfl ?_
  refine hq_g3 19 10 18 11 false true _ _ (fun hb hb2 => hop_move rfl) rfl rfl rfl rfl rfl pre0 rfl rfl rfl ?_
  refine hq_g3 20 10 18 11 false true _ _ (fun hb hb2 => hop_funR (xs := [_]) (pre := [(9001, _)]) (peek_h g s (i + k) hs hik) ⟨rfl, trivial⟩) rfl rfl rfl rfl rfl (preC rfl pre0) rfl rfl rfl ?_
  refine hq_g3 21 10 18 11 false true _ _ (fun hb hb2 => hop_call0 (xs := [_]) (digit_h _) ⟨rfl, trivial⟩ ⟨(Fz.eq rfl), trivial⟩) rfl rfl rfl rfl rfl pre0 rfl rfl rfl ?_
  refine hq_pg 22 (hstep_andg (gi := 3) (j := 11) _ _ rfl rfl rfl rfl) rfl rfl rfl rfl ?_
  refine hq_p 23 (hstep_or _ _ rfl rfl rfl) rfl rfl rfl ?_
  refine hseq_nilU (by rfl) (by simp only [dropUn, slots]; exact rfl) ?_
  refine h6 _ ?_
  refine hw_cond _ rfl (fun hc0 => ?_) (fun hc0 => ?_)
  · have hr0 := hc0; (try simp only [hcs, Int.reduceToNat] at hc0)
    have hall : alnumZ (bz s (i + k)) = true := (by unfold alnumZ; rw [Bool.or_eq_true]; rcases hc0 with h | h; exact .inl h; exact .inr h.2); have hlt : i + k < s.length := bz_lt (fun h => by rw [h] at hall; exact absurd hall (by decide))
    refine hw_skip ?_
    refine h5 _ ?_
    refine hw_block ?_
    refine hw_seq (fun Nh7 h7 => ?_)
    refine srg fun N h8 => ?_
    refine stm rfl rfl rfl ?_
    refine st0 (hop_nilcheck_pt rfl) rfl rfl ?_
    refine st0 (hop_fa fd_129_1 rfl) rfl rfl ?_
    refine st1 (hol_load ty_3 rfl (nb rfl) (nb rfl) (fun h => (by rfl))) rfl rfl rfl ?_
    refine stm rfl rfl rfl ?_
    refine st0 (hop_subi rfl rfl rfl (by omega) (by omega)) rfl rfl ?_
    refine st0 (hop_eql rfl rfl) rfl rfl ?_
    refine snl h8 ?_
    refine hw_cond _ rfl (fun hc1 => ?_) (fun hc1 => ?_)
    · have hr1 := hc1; (try simp only [hcs, Int.reduceToNat] at hc1)
      refine hw_region ?_
      refine stm rfl rfl rfl ?_
      refine hf_callP (xs := [_]) (pre := [(9001, _)]) (odd_h _ g s (i + k) hs hik) ⟨rfl, trivial⟩ (preC rfl pre0) (fun y c1 hy => ?_)
      refine (hpan_then (hpan_block (hpan_then (hpan_block (hpan_then ?_)))))
      obtain rfl : k = 12 := (by omega); exact hf_panR ok hX (y, i + 12) (by rw [hy, wrong_in hlt]; exact name_long (fun j hj => by rcases Nat.lt_or_ge j 12 with h | h; exact hal j h; obtain rfl : j = 12 := (by omega); exact hall)) rfl (kz_fault _) ⟨⟨_, rfl, kz_rd⟩, trivial⟩
    have hr1 := hc1; (try simp only [hcs, Int.reduceToNat] at hc1)
    refine hw_skip ?_
    refine h7 _ ?_
    refine hw_region ?_
    refine stm rfl rfl rfl ?_
    refine st0 (hop_nilcheck_pt rfl) rfl rfl ?_
    refine st0 (hop_fa fd_129_1 rfl) rfl rfl ?_
    refine st1 (hol_load ty_3 rfl (nb rfl) (nb rfl) (fun h => (by rfl))) rfl rfl rfl ?_
    refine st0 (hop_addi rfl rfl rfl (by omega) (by omega)) rfl rfl ?_
    refine st0 (hop_nilcheck_pt rfl) rfl rfl ?_
    refine st0 (hop_fa fd_129_1 rfl) rfl rfl ?_
    refine hm_s1 (hol_store ty_3 rfl rfl rfl rfl (nb rfl) (nb rfl) (nb rfl)) rfl rfl (pre1 rfl) (c' := c + 1) rfl ?_
    refine hseq_nil ?_
    refine hq_block ?_
    exact hL4 (k + 1) _ _ (by (try dsimp only); exact ⟨by omega, by omega, fun j hj => by rcases Nat.lt_or_ge j k with h | h; exact hal j h; obtain rfl : j = k := (by omega); exact hall⟩) (by (try dsimp only); omega) (hsub_of rfl (Nat.le_refl _) (TmSub.cons rfl (Sb.refl _) (TmSub.cons rfl (Sb.refl _) (TmSub.cons rfl (Sb.refl _) TmSub.nil))) (HpSub.cons rfl (osub2 (.refl _) (sb_int (by omega))) (HpSub.cons rfl (OSub.refl _) HpSub.nil)))
  have hr0 := hc0; (try simp only [hcs, Int.reduceToNat] at hc0)
  have hno : alnumZ (bz s (i + k)) = false := (by unfold alnumZ; rw [hc0.1, Bool.false_or]; have h2 := hc0.2; rcases Nat.eq_zero_or_pos k with h | h; subst h; rw [Nat.add_zero] at hc0; rw [hi] at hc0; exact absurd hc0.1 (by decide); rw [show decide ((i : Int) < ((i + k : Nat) : Int)) = true from decide_eq_true (by omega), Bool.true_and] at h2; exact h2)
  refine hw_exit ?_
  refine hq_then_exit ?_
  refine hq_then_exit ?_
  refine hq_block_here ?_
  refine h3 _ ?_
  refine hw_seq (fun Nh9 h9 => ?_)
  refine hd_start ?_
  refine hd_q 40 (hop_move rfl) rfl rfl pre0 rfl rfl (k' := 1) rfl ?_
  refine hd_q 41 (hop_move rfl) rfl rfl pre0 rfl rfl (k' := 2) rfl ?_
  refine hd_q 42 (hop_nilcheck_pt rfl) rfl rfl pre0 rfl rfl (k' := 3) rfl ?_
  refine hd_q 43 (hop_fa fd_129_0 rfl) rfl rfl pre0 rfl rfl (k' := 4) rfl ?_
  refine hd_q 44 (hol_load ty_9 rfl (nb rfl) (nb rfl) (fun h => (by rfl))) rfl rfl (pre1 rfl) rfl rfl (k' := 5) rfl ?_
  refine hd_q 45 (hop_move rfl) rfl rfl pre0 rfl rfl (k' := 6) rfl ?_
  refine hd_q 46 (hop_move rfl) rfl rfl pre0 rfl rfl (k' := 7) rfl ?_
  refine hd_q 47 (hop_nilcheck_pt rfl) rfl rfl pre0 rfl rfl (k' := 8) rfl ?_
  refine hd_q 48 (hop_fa fd_129_1 rfl) rfl rfl pre0 rfl rfl (k' := 9) rfl ?_
  refine hd_q 49 (hol_load ty_3 rfl (nb rfl) (nb rfl) (fun h => (by rfl))) rfl rfl (pre1 rfl) rfl rfl (k' := 10) rfl ?_
  refine hd_q 50 (hop_cut_strl (by kernel_rfl) rfl (.inr ⟨_, _, rfl, rfl⟩) (.inr ⟨_, _, rfl, rfl⟩) (by omega) (by omega) (by omega)) rfl rfl pre0 rfl rfl (k' := 11) rfl ?_
  refine hd_q 51 (hop_build (hs := [(0, 1, _), (1, 1, _), (4, 1, _)]) st_108 rfl rfl ⟨rfl, rfl, rfl, rfl, rfl, ⟨rfl, rfl, rfl, rfl, rfl, ⟨rfl, rfl, rfl, rfl, rfl, trivial⟩⟩⟩) rfl rfl pre0 rfl rfl (k' := 12) rfl ?_
  refine hd_s1 (hol_storeW ty_108 rfl rfl rfl rfl) rfl rfl (pre1 rfl) (k' := 13) rfl ?_
  refine hd_nil (by kernel_rfl) (by kernel_rfl) (c' := c + 13) rfl ?_
  refine h9 _ ?_
  refine hw_ret ?_
  refine hf_retR1 ok hX RetS.two rfl (rvl_cell rfl rfl ty_108 (fun h => by first | rfl | cases h) rfl rfl) [] rfl pre0 ((⟨1, i, 0, 0, (s.drop i).take (i + k - i)⟩, i + k)) (name_ok hk hal hno) (by rfl) (by rfl) (kz_int5 kz_imm kz_imm kz_imm kz_imm kz_imm) ?_
  exact ⟨⟨_, rfl, kz_rd⟩, trivial⟩
theorem chr_all : ∀ k : Fin 6, (((⟨#[40, 41, 124, 42, 43, 63]⟩ : ByteArray)[k.val]'k.isLt).toNat < 128) ∧ ((((⟨#[40, 41, 124, 42, 43, 63]⟩ : ByteArray)[k.val]'k.isLt).toNat : Int) = chrZ k.val) := by decide +kernel
theorem chr_small {k : Nat} (h : k < 6) : ((⟨#[40, 41, 124, 42, 43, 63]⟩ : ByteArray)[k]'h).toNat < 128 := (chr_all ⟨k, h⟩).1
theorem chr_is {k : Nat} (h : k < 6) : (((⟨#[40, 41, 124, 42, 43, 63]⟩ : ByteArray)[k]'h).toNat : Int) = chrZ k := (chr_all ⟨k, h⟩).2
theorem short_h (c0 g : Nat) (s : List UInt8) (i : Nat) (hs : s.length ≤ 1000000) (hi : i ≤ s.length) (hi0 : smallZ (bz s i) = false) (hi1 : bz s i ≠ 123) : HFun Tryd.prog 109 c0 [.pt 9001 g 0 0] [(9001, rdO g s i)] (SgP (oneR s i) g s) := by
  refine hfun_of Tryd.func109 rfl (by kernel_rfl) _ _ _ _ rfl 56 rfl rfl (fun X ok hX => ?_)
  refine srg fun N h1 => ?_
  refine hm_1 2 (hop_alloc (id := 2) (sz := 5) zc_108 rfl rfl (nb rfl) (nb rfl)) rfl rfl pre0 rfl rfl (c' := c0 + 1) rfl ?_
  refine snl h1 ?_
  refine hw_seq (fun Nh2 h2 => ?_)
  refine srg fun N h3 => ?_
  refine hm_1 6 (hop_range_s (id := 6) (by kernel_rfl) rfl) rfl rfl pre0 rfl rfl (c' := c0 + 2) rfl ?_
  refine snl h3 ?_
  refine hw_block ?_
  refine hw_loopc (α := Nat) (fun x c => ⟨56, [(0, .v (.pt 9001 g 0 0)), (2, .v (.pt 2 c0 0 0)), (6, .v (.pt 6 (c0 + 1) 0 0))], [(6, iterO (c0 + 1) ⟨#[40, 41, 124, 42, 43, 63]⟩ x), (9001, rdO g s i), (2, ⟨c0, 1, 5, 108, 0, sg0⟩)], c⟩) (fun x => x ≤ 6 ∧ (∀ j, j < x → bz s i ≠ chrZ j)) (fun x => 6 - x) (0) (by exact ⟨by omega, fun j h => absurd h (by omega)⟩) (hsub_of rfl (Nat.le_refl _) (TmSub.cons rfl (Sb.refl _) (TmSub.cons rfl (Sb.refl _) (TmSub.cons rfl (Sb.refl _) TmSub.nil))) (HpSub.cons rfl (OSub.refl _) (HpSub.cons rfl (OSub.refl _) (HpSub.cons rfl (OSub.refl _) HpSub.nil)))) (fun k c hx NhL4 hL4 => ?_)
  (try dsimp only at hx hL4 ⊢)
  obtain ⟨hk, hno⟩ := hx
  refine hw_seq (fun Nh5 h5 => ?_)
  rcases Nat.lt_or_ge k 6 with hk6 | hk6
  · skip
    refine hw_region ?_
    refine hm_1 7 (hop_next_s (c := chrZ k) rfl hk6 (chr_small hk6) (chr_is hk6)) rfl rfl (pre1 rfl) rfl rfl (c' := c + 1) rfl ?_
    refine st0 (hop_extract rfl rfl) rfl rfl ?_
    refine snl h5 ?_
    refine hw_seq (fun Nh6 h6 => ?_)
    refine hw_cond _ rfl (fun hc0 => ?_) (fun hc0 => ?_)
    · have hr0 := hc0; (try simp only [hcs, Int.reduceToNat] at hc0)
      have hck := chr_range k
      refine hw_skip ?_
      refine h6 _ ?_
      refine hw_block ?_
      refine srg fun N h7 => ?_
      refine st0 (hop_extract rfl rfl) rfl rfl ?_
      refine st0 (hop_extract rfl rfl) rfl rfl ?_
      refine sta rfl rfl rfl ?_
      refine sta rfl rfl rfl ?_
      refine snl h7 ?_
      refine hw_seq (fun Nh8 h8 => ?_)
      refine srg fun N h9 => ?_
      refine stm rfl rfl rfl ?_
      refine hq_ 12 (hop_funR (xs := [_]) (pre := [(9001, _)]) (peek_h g s i hs hi) ⟨rfl, trivial⟩) rfl rfl (preC rfl pre0) rfl rfl ?_
      refine stm rfl rfl rfl ?_
      refine st0 (hop_convk wok_u8 (by kernel_rfl) (by kernel_rfl) rfl (by omega) (by omega)) rfl rfl ?_
      refine st0 (hop_neq rfl rfl) rfl rfl ?_
      refine snl h9 ?_
      refine hw_cond _ rfl (fun hc1 => ?_) (fun hc1 => ?_)
      · have hr1 := hc1; (try simp only [hcs, Int.reduceToNat] at hc1)
        refine hw_exit ?_
        refine hq_then_exit ?_
        refine hq_block_here ?_
        exact hL4 (k + 1) _ _ (by (try dsimp only); exact ⟨by omega, fun j hj => by rcases Nat.lt_or_ge j k with h | h; exact hno j h; obtain rfl : j = k := (by omega); exact hc1⟩) (by (try dsimp only); omega) (hsub_of rfl (Nat.le_refl _) (TmSub.cons rfl (Sb.refl _) (TmSub.cons rfl (Sb.refl _) (TmSub.cons rfl (Sb.refl _) TmSub.nil))) (HpSub.cons rfl (OSub.refl _) (HpSub.cons rfl (OSub.refl _) (HpSub.cons rfl (OSub.refl _) HpSub.nil))))
      have hr1 := hc1; (try simp only [hcs, Int.reduceToNat] at hc1)
      refine hw_skip ?_
      refine h8 _ ?_
      refine srg fun N h10 => ?_
      refine stm rfl rfl rfl ?_
      refine st0 (hop_addi rfl rfl rfl (by omega) (by omega)) rfl rfl ?_
      refine stm rfl rfl rfl ?_
      refine st0 (hop_nilcheck_pt rfl) rfl rfl ?_
      refine st0 (hop_fa fd_129_1 rfl) rfl rfl ?_
      refine st1 (hol_load ty_3 rfl (nb rfl) (nb rfl) (fun h => (by rfl))) rfl rfl rfl ?_
      refine st0 (hop_build (hs := [(0, 1, _), (1, 1, _)]) st_108 rfl rfl ⟨rfl, rfl, rfl, rfl, rfl, ⟨rfl, rfl, rfl, rfl, rfl, trivial⟩⟩) rfl rfl ?_
      refine hm_1 5 (hop_alloc (id := 5) (sz := 5) zc_108 rfl rfl (nb rfl) (nb rfl)) rfl rfl pre0 rfl rfl (c' := c + 2) rfl ?_
      refine hm_s1 (hol_storeW ty_108 rfl rfl rfl rfl) rfl rfl (pre1 rfl) (c' := c + 3) rfl ?_
      refine snl h10 ?_
      refine hw_seq (fun Nh11 h11 => ?_)
      refine srg fun N h12 => ?_
      refine stm rfl rfl rfl ?_
      refine snl h12 ?_
      refine hw_block ?_
      refine srg fun N h13 => ?_
      refine st0 (hop_eql rfl rfl) rfl rfl ?_
      refine sta rfl rfl rfl ?_
      refine snl h13 ?_
      refine hw_cond _ rfl (fun hc2 => ?_) (fun hc2 => ?_)
      · have hr2 := hc2; (try simp only [hcs, Int.reduceToNat] at hc2)
        refine hw_region ?_
        refine stm rfl rfl rfl ?_
        refine st0 (hop_nilcheck_pt rfl) rfl rfl ?_
        refine st0 (hop_fa fd_129_1 rfl) rfl rfl ?_
        refine st1 (hol_load ty_3 rfl (nb rfl) (nb rfl) (fun h => (by rfl))) rfl rfl rfl ?_
        refine st0 (hop_build (hs := [(0, 1, _), (1, 1, _), (3, 1, _)]) st_108 rfl rfl ⟨rfl, rfl, rfl, rfl, rfl, ⟨rfl, rfl, rfl, rfl, rfl, ⟨rfl, rfl, rfl, rfl, rfl, trivial⟩⟩⟩) rfl rfl ?_
        refine hm_s1 (hol_storeW ty_108 rfl rfl rfl rfl) rfl rfl (pre1 rfl) (c' := c + 4) rfl ?_
        refine hseq_nil ?_
        refine hq_block ?_
        refine h11 _ ?_
        refine srg fun N h14 => ?_
        refine stm rfl rfl rfl ?_
        refine st0 (hop_nilcheck_pt rfl) rfl rfl ?_
        refine st0 (hop_fa fd_129_1 rfl) rfl rfl ?_
        refine st1 (hol_load ty_3 rfl (nb rfl) (nb rfl) (fun h => (by rfl))) rfl rfl rfl ?_
        refine st0 (hop_addi rfl rfl rfl (by omega) (by omega)) rfl rfl ?_
        refine st0 (hop_nilcheck_pt rfl) rfl rfl ?_
        refine st0 (hop_fa fd_129_1 rfl) rfl rfl ?_
        refine hm_s1 (hol_store ty_3 rfl rfl rfl rfl (nb rfl) (nb rfl) (nb rfl)) rfl rfl (pre1 rfl) (c' := c + 5) rfl ?_
        refine snl h14 ?_
        refine srg fun N h15 => ?_
        refine st1 (hol_load ty_108 rfl (nb rfl) (nb rfl) (fun h => (by cases h))) rfl rfl rfl ?_
        refine hm_s1 (hol_storeW ty_108 rfl rfl rfl rfl) rfl rfl (pre1 rfl) (c' := c + 6) rfl ?_
        refine snl h15 ?_
        refine hw_ret ?_
        refine hq_block_ret ?_
        refine hq_then_ret ?_
        refine hq_block_ret ?_
        refine hq_then_ret ?_
        refine hf_retR1 ok hX RetS.two rfl (rvl_cell rfl rfl ty_108 (fun h => by first | rfl | cases h) rfl rfl) [] rfl pre0 ((⟨5, i, 0, -1, []⟩, i + 1)) (one_42 (hc1.trans hc2)) (by rfl) (by rfl) (kz_int5 kz_imm kz_imm kz_imm kz_imm kz_imm) ?_
        exact ⟨⟨_, rfl, okz2 (by first | exact .fz _ _ (.imm _) | exact .os _ _ _ _ _ rfl rfl | exact .pt _ _ _ _ _ rfl rfl | exact .nps _ _ _ rfl rfl | (dsimp only; exact .fz _ _ Frz.fz) | exact .fz _ _ (.tup 0 _ _ (fun i hi => absurd hi (Nat.not_lt_zero _)))) (kz_int (by omega))⟩, trivial⟩
      have hr2 := hc2; (try simp only [hcs, Int.reduceToNat] at hc2)
      refine srg fun N h16 => ?_
      refine st0 (hop_eql rfl rfl) rfl rfl ?_
      refine sta rfl rfl rfl ?_
      refine snl h16 ?_
      refine hw_cond _ rfl (fun hc3 => ?_) (fun hc3 => ?_)
      · have hr3 := hc3; (try simp only [hcs, Int.reduceToNat] at hc3)
        refine hw_region ?_
        refine stm rfl rfl rfl ?_
        refine st0 (hop_nilcheck_pt rfl) rfl rfl ?_
        refine st0 (hop_fa fd_129_1 rfl) rfl rfl ?_
        refine st1 (hol_load ty_3 rfl (nb rfl) (nb rfl) (fun h => (by rfl))) rfl rfl rfl ?_
        refine st0 (hop_build (hs := [(0, 1, _), (1, 1, _), (2, 1, _), (3, 1, _)]) st_108 rfl rfl ⟨rfl, rfl, rfl, rfl, rfl, ⟨rfl, rfl, rfl, rfl, rfl, ⟨rfl, rfl, rfl, rfl, rfl, ⟨rfl, rfl, rfl, rfl, rfl, trivial⟩⟩⟩⟩) rfl rfl ?_
        refine hm_s1 (hol_storeW ty_108 rfl rfl rfl rfl) rfl rfl (pre1 rfl) (c' := c + 4) rfl ?_
        refine hseq_nil ?_
        refine hq_block ?_
        refine h11 _ ?_
        refine srg fun N h17 => ?_
        refine stm rfl rfl rfl ?_
        refine st0 (hop_nilcheck_pt rfl) rfl rfl ?_
        refine st0 (hop_fa fd_129_1 rfl) rfl rfl ?_
        refine st1 (hol_load ty_3 rfl (nb rfl) (nb rfl) (fun h => (by rfl))) rfl rfl rfl ?_
        refine st0 (hop_addi rfl rfl rfl (by omega) (by omega)) rfl rfl ?_
        refine st0 (hop_nilcheck_pt rfl) rfl rfl ?_
        refine st0 (hop_fa fd_129_1 rfl) rfl rfl ?_
        refine hm_s1 (hol_store ty_3 rfl rfl rfl rfl (nb rfl) (nb rfl) (nb rfl)) rfl rfl (pre1 rfl) (c' := c + 5) rfl ?_
        refine snl h17 ?_
        refine srg fun N h18 => ?_
        refine st1 (hol_load ty_108 rfl (nb rfl) (nb rfl) (fun h => (by cases h))) rfl rfl rfl ?_
        refine hm_s1 (hol_storeW ty_108 rfl rfl rfl rfl) rfl rfl (pre1 rfl) (c' := c + 6) rfl ?_
        refine snl h18 ?_
        refine hw_ret ?_
        refine hq_block_ret ?_
        refine hq_then_ret ?_
        refine hq_block_ret ?_
        refine hq_then_ret ?_
        refine hf_retR1 ok hX RetS.two rfl (rvl_cell rfl rfl ty_108 (fun h => by first | rfl | cases h) rfl rfl) [] rfl pre0 ((⟨5, i, 1, -1, []⟩, i + 1)) (one_43 (hc1.trans hc3)) (by rfl) (by rfl) (kz_int5 kz_imm kz_imm kz_imm kz_imm kz_imm) ?_
        exact ⟨⟨_, rfl, okz2 (by first | exact .fz _ _ (.imm _) | exact .os _ _ _ _ _ rfl rfl | exact .pt _ _ _ _ _ rfl rfl | exact .nps _ _ _ rfl rfl | (dsimp only; exact .fz _ _ Frz.fz) | exact .fz _ _ (.tup 0 _ _ (fun i hi => absurd hi (Nat.not_lt_zero _)))) (kz_int (by omega))⟩, trivial⟩
      have hr3 := hc3; (try simp only [hcs, Int.reduceToNat] at hc3)
      refine srg fun N h19 => ?_
      refine st0 (hop_eql rfl rfl) rfl rfl ?_
      refine sta rfl rfl rfl ?_
      refine snl h19 ?_
      refine hw_cond _ rfl (fun hc4 => ?_) (fun hc4 => ?_)
      · have hr4 := hc4; (try simp only [hcs, Int.reduceToNat] at hc4)
        refine hw_region ?_
        refine stm rfl rfl rfl ?_
        refine st0 (hop_nilcheck_pt rfl) rfl rfl ?_
        refine st0 (hop_fa fd_129_1 rfl) rfl rfl ?_
        refine st1 (hol_load ty_3 rfl (nb rfl) (nb rfl) (fun h => (by rfl))) rfl rfl rfl ?_
        refine st0 (hop_build (hs := [(0, 1, _), (1, 1, _), (3, 1, _)]) st_108 rfl rfl ⟨rfl, rfl, rfl, rfl, rfl, ⟨rfl, rfl, rfl, rfl, rfl, ⟨rfl, rfl, rfl, rfl, rfl, trivial⟩⟩⟩) rfl rfl ?_
        refine hm_s1 (hol_storeW ty_108 rfl rfl rfl rfl) rfl rfl (pre1 rfl) (c' := c + 4) rfl ?_
        refine hseq_nil ?_
        refine hq_block ?_
        refine h11 _ ?_
        refine srg fun N h20 => ?_
        refine stm rfl rfl rfl ?_
        refine st0 (hop_nilcheck_pt rfl) rfl rfl ?_
        refine st0 (hop_fa fd_129_1 rfl) rfl rfl ?_
        refine st1 (hol_load ty_3 rfl (nb rfl) (nb rfl) (fun h => (by rfl))) rfl rfl rfl ?_
        refine st0 (hop_addi rfl rfl rfl (by omega) (by omega)) rfl rfl ?_
        refine st0 (hop_nilcheck_pt rfl) rfl rfl ?_
        refine st0 (hop_fa fd_129_1 rfl) rfl rfl ?_
        refine hm_s1 (hol_store ty_3 rfl rfl rfl rfl (nb rfl) (nb rfl) (nb rfl)) rfl rfl (pre1 rfl) (c' := c + 5) rfl ?_
        refine snl h20 ?_
        refine srg fun N h21 => ?_
        refine st1 (hol_load ty_108 rfl (nb rfl) (nb rfl) (fun h => (by cases h))) rfl rfl rfl ?_
        refine hm_s1 (hol_storeW ty_108 rfl rfl rfl rfl) rfl rfl (pre1 rfl) (c' := c + 6) rfl ?_
        refine snl h21 ?_
        refine hw_ret ?_
        refine hq_block_ret ?_
        refine hq_then_ret ?_
        refine hq_block_ret ?_
        refine hq_then_ret ?_
        refine hf_retR1 ok hX RetS.two rfl (rvl_cell rfl rfl ty_108 (fun h => by first | rfl | cases h) rfl rfl) [] rfl pre0 ((⟨5, i, 0, 1, []⟩, i + 1)) (one_63 (hc1.trans hc4)) (by rfl) (by rfl) (kz_int5 kz_imm kz_imm kz_imm kz_imm kz_imm) ?_
        exact ⟨⟨_, rfl, okz2 (by first | exact .fz _ _ (.imm _) | exact .os _ _ _ _ _ rfl rfl | exact .pt _ _ _ _ _ rfl rfl | exact .nps _ _ _ rfl rfl | (dsimp only; exact .fz _ _ Frz.fz) | exact .fz _ _ (.tup 0 _ _ (fun i hi => absurd hi (Nat.not_lt_zero _)))) (kz_int (by omega))⟩, trivial⟩
      have hr4 := hc4; (try simp only [hcs, Int.reduceToNat] at hc4)
      refine hw_skip ?_
      refine hq_block ?_
      refine h11 _ ?_
      refine srg fun N h22 => ?_
      refine stm rfl rfl rfl ?_
      refine st0 (hop_nilcheck_pt rfl) rfl rfl ?_
      refine st0 (hop_fa fd_129_1 rfl) rfl rfl ?_
      refine st1 (hol_load ty_3 rfl (nb rfl) (nb rfl) (fun h => (by rfl))) rfl rfl rfl ?_
      refine st0 (hop_addi rfl rfl rfl (by omega) (by omega)) rfl rfl ?_
      refine st0 (hop_nilcheck_pt rfl) rfl rfl ?_
      refine st0 (hop_fa fd_129_1 rfl) rfl rfl ?_
      refine hm_s1 (hol_store ty_3 rfl rfl rfl rfl (nb rfl) (nb rfl) (nb rfl)) rfl rfl (pre1 rfl) (c' := c + 4) rfl ?_
      refine snl h22 ?_
      refine srg fun N h23 => ?_
      refine st1 (hol_load ty_108 rfl (nb rfl) (nb rfl) (fun h => (by cases h))) rfl rfl rfl ?_
      refine hm_s1 (hol_storeW ty_108 rfl rfl rfl rfl) rfl rfl (pre1 rfl) (c' := c + 5) rfl ?_
      refine snl h23 ?_
      refine hw_ret ?_
      refine hq_block_ret ?_
      refine hq_then_ret ?_
      refine hq_block_ret ?_
      refine hq_then_ret ?_
      refine hf_retR1 ok hX RetS.two rfl (rvl_cell rfl rfl ty_108 (fun h => by first | rfl | cases h) rfl rfl) [] rfl pre0 ((⟨2 + k, i, 0, 0, []⟩, i + 1)) (one_par hk6 hc1 hc2 hc3 hc4) (by rfl) (by rfl) (kz_int5 kz_imm kz_imm kz_imm kz_imm kz_imm) ?_
      exact ⟨⟨_, rfl, okz2 (by first | exact .fz _ _ (.imm _) | exact .os _ _ _ _ _ rfl rfl | exact .pt _ _ _ _ _ rfl rfl | exact .nps _ _ _ rfl rfl | (dsimp only; exact .fz _ _ Frz.fz) | exact .fz _ _ (.tup 0 _ _ (fun i hi => absurd hi (Nat.not_lt_zero _)))) (kz_int (by omega))⟩, trivial⟩
    have hr0 := hc0; (try simp only [hcs, Int.reduceToNat] at hc0)
    exfalso; cases hr0
  · skip
    refine hw_region ?_
    refine st1 (hop_next_end rfl (by show ¬ k < 6; omega)) rfl rfl rfl ?_
    refine st0 (hop_extract rfl rfl) rfl rfl ?_
    refine snl h5 ?_
    refine hw_seq (fun Nh24 h24 => ?_)
    refine hw_cond _ rfl (fun hc0 => ?_) (fun hc0 => ?_)
    · have hr0 := hc0; (try simp only [hcs, Int.reduceToNat] at hc0)
      exfalso; cases hr0
    have hr0 := hc0; (try simp only [hcs, Int.reduceToNat] at hc0)
    refine hw_exit ?_
    refine hq_then_exit ?_
    refine hq_then_exit ?_
    refine hq_block_here ?_
    refine h2 _ ?_
    refine srg fun N h25 => ?_
    refine stm rfl rfl rfl ?_
    refine hf_callP (xs := [_]) (pre := [(9001, _)]) (odd_h _ g s i hs hi) ⟨rfl, trivial⟩ (preC rfl pre0) (fun y c1 hy => ?_)
    refine (hpan_then ?_)
    exact hf_panR ok hX (y, i) (by rw [hy]; exact one_none hi0 hi1 (fun j hj => hno j (by omega))) rfl (kz_fault _) ⟨⟨_, rfl, kz_rd⟩, trivial⟩
theorem sign_h (c0 g : Nat) (s : List UInt8) (i : Nat) (hs : s.length ≤ 1000000) (hi : i ≤ s.length) : HFun Tryd.prog 89 c0 [.pt 9001 g 0 0] [(9001, rdO g s i)] (SgP (oneR s i) g s) := by
  refine hfun_of Tryd.func89 rfl (by kernel_rfl) _ _ _ _ rfl 21 rfl rfl (fun X ok hX => ?_)
  refine srg fun N h1 => ?_
  refine hm_1 2 (hop_alloc (id := 2) (sz := 5) zc_108 rfl rfl (nb rfl) (nb rfl)) rfl rfl pre0 rfl rfl (c' := c0 + 1) rfl ?_
  refine snl h1 ?_
  refine srg fun N h2 => ?_
  refine stm rfl rfl rfl ?_
  refine st0 (hop_makeBound rfl) rfl rfl ?_
  refine sta rfl rfl rfl ?_
  refine snl h2 ?_
  refine hw_seq (fun Nh3 h3 => ?_)
  refine srg fun N h4 => ?_
  refine stm rfl rfl rfl ?_
  refine hq_ 8 (hop_funR (xs := [_]) (pre := [(9001, _)]) (peek_h g s i hs hi) ⟨rfl, trivial⟩) rfl rfl (preC rfl pre0) rfl rfl ?_
  refine sta rfl rfl rfl ?_
  refine snl h4 ?_
  refine hw_block ?_
  refine srg fun N h5 => ?_
  refine stm rfl rfl rfl ?_
  refine st0 (hop_call0 (xs := [_]) (small_h _) ⟨rfl, trivial⟩ ⟨(Fz.eq rfl), trivial⟩) rfl rfl ?_
  refine sta rfl rfl rfl ?_
  refine snl h5 ?_
  refine hw_cond _ rfl (fun hc0 => ?_) (fun hc0 => ?_)
  · have hr0 := hc0; (try simp only [hcs, Int.reduceToNat] at hc0)
    refine hw_region ?_
    refine stm rfl rfl rfl ?_
    refine st0 (hop_makeBound rfl) rfl rfl ?_
    refine sta rfl rfl rfl ?_
    refine hseq_nil ?_
    refine hq_block ?_
    refine h3 _ ?_
    refine srg fun N h6 => ?_
    refine stm rfl rfl rfl ?_
    refine hf_callBRP 20 (xs := []) (pre := [(9001, _)]) (name_h _ g s i hs hc0) rfl trivial (preC rfl pre0) rfl rfl (fun y c1 hy => (hpan_then (hf_panR ok hX y (by unfold oneR; rw [if_pos hc0, hy]) rfl (kz_fault _) ⟨⟨_, rfl, kz_rd⟩, trivial⟩))) (fun x1 c1 hx => ?_)
    obtain ⟨x, q⟩ := x1
    (try dsimp only)
    refine hm_s1 (hol_storeW ty_108 rfl rfl rfl rfl) rfl rfl (pre1 rfl) (c' := c1 + 1) rfl ?_
    refine snl h6 ?_
    refine hw_ret ?_
    refine hf_retR1 ok hX RetS.two rfl (rvl_cell rfl rfl ty_108 (fun h => by first | rfl | cases h) rfl rfl) [] rfl pre0 ((x, q)) (by unfold oneR; rw [if_pos hc0, hx]) (by rfl) (by rfl) (kz_int5 kz_imm kz_imm kz_imm kz_imm kz_imm) ?_
    exact ⟨⟨_, rfl, kz_rd⟩, trivial⟩
  have hr0 := hc0; (try simp only [hcs, Int.reduceToNat] at hc0)
  refine srg fun N h7 => ?_
  refine stm rfl rfl rfl ?_
  refine st0 (hop_eql rfl rfl) rfl rfl ?_
  refine sta rfl rfl rfl ?_
  refine snl h7 ?_
  refine hw_cond _ rfl (fun hc1 => ?_) (fun hc1 => ?_)
  · have hr1 := hc1; (try simp only [hcs, Int.reduceToNat] at hc1)
    refine hw_region ?_
    refine stm rfl rfl rfl ?_
    refine st0 (hop_makeBound rfl) rfl rfl ?_
    refine sta rfl rfl rfl ?_
    refine hseq_nil ?_
    refine hq_block ?_
    refine h3 _ ?_
    refine srg fun N h8 => ?_
    refine stm rfl rfl rfl ?_
    refine hf_callBRP 20 (xs := []) (pre := [(9001, _)]) (count_h _ g s i hs (bz_lt (by omega))) rfl trivial (preC rfl pre0) rfl rfl (fun y c2 hy => (hpan_then (hf_panR ok hX y (by unfold oneR; rw [if_neg (by rw [hc0]; decide), if_pos hc1, hy]) rfl (kz_fault _) ⟨⟨_, rfl, kz_rd⟩, trivial⟩))) (fun x2 c2 hx => ?_)
    obtain ⟨x, q⟩ := x2
    (try dsimp only)
    refine hm_s1 (hol_storeW ty_108 rfl rfl rfl rfl) rfl rfl (pre1 rfl) (c' := c2 + 1) rfl ?_
    refine snl h8 ?_
    refine hw_ret ?_
    refine hf_retR1 ok hX RetS.two rfl (rvl_cell rfl rfl ty_108 (fun h => by first | rfl | cases h) rfl rfl) [] rfl pre0 ((x, q)) (by unfold oneR; rw [if_neg (by rw [hc0]; decide), if_pos hc1, hx]) (by rfl) (by rfl) (kz_int5 kz_imm kz_imm kz_imm kz_imm kz_imm) ?_
    exact ⟨⟨_, rfl, kz_rd⟩, trivial⟩
  have hr1 := hc1; (try simp only [hcs, Int.reduceToNat] at hc1)
  refine hw_skip ?_
  refine hq_block ?_
  refine h3 _ ?_
  refine srg fun N h9 => ?_
  refine stm rfl rfl rfl ?_
  refine hf_callBRP 20 (xs := []) (pre := [(9001, _)]) (short_h _ g s i hs hi hc0 hc1) rfl trivial (preC rfl pre0) rfl rfl (fun y c3 hy => (hpan_then (hf_panR ok hX y hy rfl (kz_fault _) ⟨⟨_, rfl, kz_rd⟩, trivial⟩))) (fun x3 c3 hx => ?_)
  obtain ⟨x, q⟩ := x3
  (try dsimp only)
  refine hm_s1 (hol_storeW ty_108 rfl rfl rfl rfl) rfl rfl (pre1 rfl) (c' := c3 + 1) rfl ?_
  refine snl h9 ?_
  refine hw_ret ?_
  refine hf_retR1 ok hX RetS.two rfl (rvl_cell rfl rfl ty_108 (fun h => by first | rfl | cases h) rfl rfl) [] rfl pre0 ((x, q)) (hx) (by rfl) (by rfl) (kz_int5 kz_imm kz_imm kz_imm kz_imm kz_imm) ?_
  exact ⟨⟨_, rfl, kz_rd⟩, trivial⟩
end Go.Proofs.YtmcchhmgchgaaaaDoor

namespace Go.Proofs.YtmcchhmgchgaaaaDoor
set_option linter.unusedSimpArgs false
set_option linter.unusedVariables false
open Go.RowKit
open Go.Lib hiding intOf

theorem digits_i (v : Int) (h0 : 0 ≤ v) (h1 : v < 18446744073709551616) (w : World) :
    Calls Tryd.prog 34 #[.int .u64 v] w fun e w' => e = .returned (.string ⟨(decDigits v.toNat).toArray⟩) ∧ Below w.heap.size w w' := by
  have := digits_w v.toNat (by omega) w
  rwa [show ((v.toNat : Nat) : Int) = v by omega] at this
theorem minus_dec (l : List UInt8) : (⟨#[45]⟩ ++ ⟨l.toArray⟩ : ByteArray) = ⟨(45 :: l).toArray⟩ := by
  have : (⟨#[45]⟩ ++ ⟨l.toArray⟩ : ByteArray).data = (45 :: l).toArray := by
    apply Array.ext'
    rw [ByteArray.data_append, Array.toList_append]
    simp
  have h2 : (⟨#[45]⟩ ++ ⟨l.toArray⟩ : ByteArray) = ⟨(⟨#[45]⟩ ++ ⟨l.toArray⟩ : ByteArray).data⟩ := rfl
  rw [h2, this]
theorem refShow_w (n : Int) (h0 : -9223372036854775808 ≤ n) (h1 : n ≤ 9223372036854775807) (w : World) :
    Calls Tryd.prog 11 #[.int .i64 n] w fun e w' => e = .returned (.string ⟨(itoa n).toArray⟩) ∧ Below w.heap.size w w' := by
  by_cases hn : n < 0
  · have e : itoa n = 45 :: decDigits n.natAbs := by unfold itoa; rw [if_pos hn]
    have w1 : IntKind.i64.wrap (n + 1) = n + 1 := by rw [IntKind.wrap_i64]; omega
    have w2 : IntKind.i64.wrap (-(n + 1)) = -(n + 1) := by rw [IntKind.wrap_i64]; omega
    have w3 : IntKind.u64.wrap (-(n + 1)) = -(n + 1) := by rw [IntKind.wrap_u64]; omega
    have w4 : IntKind.u64.wrap (-(n + 1) + 1) = -(n + 1) + 1 := by rw [IntKind.wrap_u64]; omega
    have hd := fun w => digits_i (-(n + 1) + 1) (by omega) (by omega) w
    rw [show (-(n + 1) + 1).toNat = n.natAbs by omega] at hd
    have hl : (decDigits n.natAbs).length ≤ 20 := dec_len 19 n.natAbs (by omega)
    rw [e]
    have hnl : ¬ 9223372036854775807 < 1 + (decDigits n.natAbs).length := by omega
    have hm := minus_dec (decDigits n.natAbs)
    generalize decDigits n.natAbs = l at *
    go_enter Tryd.func11, Tryd.ntmps11
    go_wp2_with (go_at_call 34; refine (hd _).mono ?_; rintro e w1 ⟨rfl, b1⟩)
    go_ret
    exact ⟨rfl, b1⟩
  · have e : itoa n = decDigits n.toNat := by unfold itoa; rw [if_neg hn]
    have w3 : IntKind.u64.wrap n = n := by rw [IntKind.wrap_u64]; omega
    have hd := fun w => digits_i n (by omega) (by omega) w
    rw [e]
    generalize decDigits n.toNat = l at *
    go_enter Tryd.func11, Tryd.ntmps11
    go_wp2_with (go_at_call 34; refine (hd _).mono ?_; rintro e w1 ⟨rfl, b1⟩)
    go_ret
    exact ⟨rfl, b1⟩
end Go.Proofs.YtmcchhmgchgaaaaDoor

namespace Go.Proofs
open Go.Shelf
set_option maxRecDepth 100000

def Tryd.bld240_ren : Go.Shelf.Ren := ⟨fun | 240 => 60 | 276 => 78 | n => n, fun | 0 => 0 | 3 => 3 | 4 => 4 | 5 => 5 | 9 => 9 | 20 => 20 | 37 => 27 | 70 => 61 | 72 => 63 | 75 => 56 | 80 => 68 | 164 => 120  | n => n, fun | n => n⟩
theorem Tryd.bld240 : Go.Proofs.Lays.n240 Tryd.prog Tryd.bld240_ren := {
  mixed := by kernel_rfl
  f240 := Tryd.func60.trans (congrArg some (by kernel_rfl))
  f276 := Tryd.func78.trans (congrArg some (by kernel_rfl))
  t0 := Tryd.underlying0
  a0 := Tryd.isAgg0
  z0 := Tryd.sizeOf0
  v0 := Tryd.zeroValue0
  t4 := Tryd.underlying4
  a4 := Tryd.isAgg4
  z4 := Tryd.sizeOf4
  v4 := Tryd.zeroValue4
  t9 := Tryd.underlying9
  a9 := Tryd.isAgg9
  z9 := Tryd.sizeOf9
  v9 := Tryd.zeroValue9
  t20 := Tryd.underlying20
  a20 := Tryd.isAgg20
  z20 := Tryd.sizeOf20
  v20 := Tryd.zeroValue20
  t70 := Tryd.underlying61
  a70 := Tryd.isAgg61
  z70 := Tryd.sizeOf61
  v70 := Tryd.zeroValue61
  t72 := Tryd.underlying63
  a72 := Tryd.isAgg63
  z72 := Tryd.sizeOf63
  v72 := Tryd.zeroValue63
  t164 := Tryd.underlying120
  a164 := Tryd.isAgg120
  z164 := Tryd.sizeOf120
  v164 := Tryd.zeroValue120 }
theorem Tryd.bldX240 : Builder.X72 Tryd.prog Tryd.bld240_ren := { sizeBuilder := by kernel_rfl, liesBuilder := by kernel_rfl }
end Go.Proofs

namespace Go.Proofs.YtmcchhmgchgaaaaDoor
set_option linter.unusedSimpArgs false
set_option linter.unusedVariables false
open Go.RowKit
open Go.Lib hiding intOf

def hexD (n : Nat) : UInt8 := if n < 10 then UInt8.ofNat (48 + n) else UInt8.ofNat (87 + n)
def plainB (c : UInt8) : Bool := decide (32 < c.toNat) && !decide (c.toNat = 127)
def hideB (c : UInt8) : List UInt8 :=
  if c.toNat = 92 then [92, 92] else if c.toNat = 32 then [92, 115] else if c.toNat = 10 then [92, 110] else if plainB c then [c] else [92, 120, hexD (c.toNat / 16), hexD (c.toNat % 16)]
def hideL (l : List UInt8) : List UInt8 := l.flatMap hideB
/-- The short table. -/
noncomputable def shortV : List Value := ((Tryd.zeroCells64.toList.set 32 (.int .u8 115)).set 10 (.int .u8 110)).set 92 (.int .u8 92)
end Go.Proofs.YtmcchhmgchgaaaaDoor

namespace Go.Proofs.YtmcchhmgchgaaaaDoor
set_option linter.unusedSimpArgs false
set_option linter.unusedVariables false
set_option maxRecDepth 100000
open Go.RowKit
open Go.Lib hiding intOf

theorem libAt {w : World} (h : LibW w) : LibAt w := ⟨h.tab (by unfold hasLib; kernel_rfl), h.syn (by unfold hasLib; kernel_rfl), h.rng (by unfold hasLib; kernel_rfl)⟩
theorem refShow_h (n : Int) (h0 : -9223372036854775808 ≤ n) (h1 : n ≤ 9223372036854775807) : HPure Tryd.prog 11 [intV n] (strV (itoa n)) := by
  refine ⟨⟨_, _, Tryd.func11, rfl, by kernel_rfl⟩, fun w F vs hF hr hw => ?_⟩
  obtain ⟨v, rfl, hv⟩ := rep1 hr
  rw [hv.imm_inv]
  refine (refShow_w n h0 h1 w).mono ?_
  rintro e w' ⟨rfl, hb⟩
  exact pure_imm hF hb
end Go.Proofs.YtmcchhmgchgaaaaDoor

namespace Go.Proofs.YtmcchhmgchgaaaaDoor
set_option linter.unusedSimpArgs false
set_option linter.unusedVariables false

open Classical in
noncomputable def bareV (l : List UInt8) : Option (List UInt8) := if h : ∃ b, hideL b = l then some h.choose else none
end Go.Proofs.YtmcchhmgchgaaaaDoor

namespace Go.Proofs
open Go.Shelf
def Tryd.lays137_ren : Go.Shelf.Ren := ⟨fun | 137 => 61 | 217 => 79 | 266 => 103 | n => n, fun | 9 => 9 | 5 => 5 | 3 => 3 | n => n, fun | n => n⟩
theorem Tryd.lays137 : Go.Proofs.Lays.n137 Tryd.prog Tryd.lays137_ren := {
  mixed := by kernel_rfl
  f137 := Tryd.func61.trans (congrArg some (by kernel_rfl))
  f217 := Tryd.func79.trans (congrArg some (by kernel_rfl))
  f266 := Tryd.func103.trans (congrArg some (by kernel_rfl))
  t3 := Tryd.underlying3
  a3 := Tryd.isAgg3
  z3 := Tryd.sizeOf3
  v3 := Tryd.zeroValue3
  t5 := Tryd.underlying5
  a5 := Tryd.isAgg5
  z5 := Tryd.sizeOf5
  v5 := Tryd.zeroValue5
  t9 := Tryd.underlying9
  a9 := Tryd.isAgg9
  z9 := Tryd.sizeOf9
  v9 := Tryd.zeroValue9 }
open Go.RowKit in
theorem Tryd.strings_IndexByte (s : ByteArray) (c : Int) (w : World) :
    Calls Tryd.prog 61 #[.string s, .int .u8 c] w fun e w' => e = .returned (.int .i64 (Lib.indexByte s.data.toList c.toNat.toUInt8)) ∧ w' = w := Any.strings_IndexByte Tryd.lays137 s c w
end Go.Proofs

namespace Go.Proofs.YtmcchhmgchgaaaaDoor
set_option linter.unusedSimpArgs false
set_option linter.unusedVariables false
set_option maxRecDepth 100000
open Go.RowKit

theorem u8_back (c : UInt8) : ((c.toNat : Int)).toNat.toUInt8 = c := by simp
theorem indexByte_h (l : List UInt8) (c : UInt8) : HPure Tryd.prog 61 [strV l, u8V c] (intV (Lib.indexByte l c)) := by
  refine ⟨⟨_, _, Tryd.func61, rfl, by kernel_rfl⟩, fun w F vs hF hr hw => ?_⟩
  obtain ⟨u, v, rfl, hu, hv⟩ := rep2 hr
  rw [hu.imm_inv, hv.imm_inv]
  refine (Tryd.strings_IndexByte ⟨l.toArray⟩ c.toNat w).mono ?_
  rintro e w' ⟨rfl, rfl⟩
  rw [u8_back]
  exact pure_imm hF (Below.refl _ _)
end Go.Proofs.YtmcchhmgchgaaaaDoor

namespace Go.Proofs.YtmcchhmgchgaaaaDoor
set_option linter.unusedSimpArgs false
set_option linter.unusedVariables false
set_option maxRecDepth 100000
open Go.RowKit

instance : Inhabited Sg := ⟨⟨0, 0, 0, 0, []⟩⟩
@[reducible] def sgsF (l : List Sg) : Nat → Nat → HV := fun i j => sgF (l.getD i default) j
@[reducible] def sgsV (l : List Sg) : HV := .sl 5 l.length (sgsF l)
def lexO (r : Except (Int × Int) (List Sg)) : List Sg × Int × Int := match r with | .ok l => (l, 0, 0) | .error e => ([], e.1, e.2)
@[reducible] def lexH (r : List Sg × Int × Int) : HV := t3 (sgsV r.1) (intV r.2.1) (intV r.2.2)
/-- The three results' cells. -/
@[reducible] def cell1 (g ty : Nat) (x : HV) : HObj := ⟨g, 1, 1, ty, 0, fun _ _ => x⟩
theorem okz_cell {kp sh : List (Nat × HObj)} {g ty : Nat} {f : Nat → Nat → HV} {y : HV} (h : Kz kp sh (f 0 0) y) : OKz kp sh ⟨g, 1, 1, ty, 0, f⟩ (cell1 g ty y) := okz1 h
theorem lex1_R (c ga gb gd gl n : Nat) (F : Nat → Nat → HV) (hF : ∀ i j, ∃ v, F i j = .imm v) (va ve : Int) : HDef Tryd.prog 84 modeR modeR c [.pt 2 ga 0 0, .pt 3 gb 0 0, .pt 4 gd 0 0] (.imm .nilIface)
    [(2, cell1 ga 86 (.os 54 gl 0 n)), (3, cell1 gb 3 (intV va)), (4, cell1 gd 29 (intV ve)), (54, ⟨gl, n, 5, 108, 0, F⟩)]
    (RetP (fun (_ : Unit) _ => True) (fun _ => .tup 0 fun _ => default) (fun _ => [(2, cell1 ga 86 (.os 54 gl 0 n)), (3, cell1 gb 3 (intV va)), (4, cell1 gd 29 (intV ve)), (54, ⟨gl, n, 5, 108, 0, F⟩)])) := by
  refine hdef_of _ _ _ recR Tryd.func84 rfl (by kernel_rfl) _ _ _ rfl 21 rfl rfl rfl rfl rfl rfl (by decide) (fun X ok hX => ?_)
  refine srg fun N h1 => ?_
  refine stm rfl rfl rfl ?_
  refine st0 (hop_nil_ne_nil (by kernel_rfl) rfl) rfl rfl ?_
  refine snl h1 ?_
  refine hw_cond _ rfl (fun hc0 => ?_) (fun hc0 => ?_)
  · have hr0 := hc0; (try simp only [hcs, Int.reduceToNat] at hc0)
    exfalso; cases hr0
  have hr0 := hc0; (try simp only [hcs, Int.reduceToNat] at hc0)
  refine hw_skip ?_
  refine hq_fall ?_
  refine hf_retR0 ok hX RetS.one rfl  [] rfl pre0 (()) (trivial) (by rfl) (by rfl) ((by first | exact .fz _ _ (.imm _) | exact .os _ _ _ _ _ rfl rfl | exact .pt _ _ _ _ _ rfl rfl | exact .nps _ _ _ rfl rfl | (dsimp only; exact .fz _ _ Frz.fz) | exact .fz _ _ (.tup 0 _ _ (fun i hi => absurd hi (Nat.not_lt_zero _))))) ?_
  exact ⟨⟨_, rfl, okz_cell (by first | exact .fz _ _ (.imm _) | exact .os _ _ _ _ _ rfl rfl | exact .pt _ _ _ _ _ rfl rfl | exact .nps _ _ _ rfl rfl | (dsimp only; exact .fz _ _ Frz.fz) | exact .fz _ _ (.tup 0 _ _ (fun i hi => absurd hi (Nat.not_lt_zero _))))⟩, ⟨⟨_, rfl, okz_cell (by first | exact .fz _ _ (.imm _) | exact .os _ _ _ _ _ rfl rfl | exact .pt _ _ _ _ _ rfl rfl | exact .nps _ _ _ rfl rfl | (dsimp only; exact .fz _ _ Frz.fz) | exact .fz _ _ (.tup 0 _ _ (fun i hi => absurd hi (Nat.not_lt_zero _))))⟩, ⟨⟨_, rfl, okz_cell (by first | exact .fz _ _ (.imm _) | exact .os _ _ _ _ _ rfl rfl | exact .pt _ _ _ _ _ rfl rfl | exact .nps _ _ _ rfl rfl | (dsimp only; exact .fz _ _ Frz.fz) | exact .fz _ _ (.tup 0 _ _ (fun i hi => absurd hi (Nat.not_lt_zero _))))⟩, ⟨⟨_, rfl, .of (fun i j hi hj => by obtain ⟨v, hv⟩ := hF i j; rw [hv]; exact kz_imm)⟩, trivial⟩⟩⟩⟩
theorem lex1_P (c ga gb gd : Nat) (x : HV) (va ve : Int) (e : Int × Int) : HDef Tryd.prog 84 modeP modeP' c [.pt 2 ga 0 0, .pt 3 gb 0 0, .pt 4 gd 0 0] (faultV e)
    [(2, cell1 ga 86 x), (3, cell1 gb 3 (intV va)), (4, cell1 gd 29 (intV ve))]
    (RetP (fun (_ : Unit) _ => True) (fun _ => .tup 0 fun _ => default) (fun _ => [(2, cell1 ga 86 (.imm (.slice none 0 0))), (3, cell1 gb 3 (intV e.1)), (4, cell1 gd 29 (intV e.2))])) := by
  refine hdef_of _ _ _ (recP _) Tryd.func84 rfl (by kernel_rfl) _ _ _ rfl 21 rfl rfl rfl rfl rfl rfl (by decide) (fun X ok hX => ?_)
  refine srg fun N h1 => ?_
  refine stm rfl rfl rfl ?_
  refine st0 (hop_ifc_ne_nil (by kernel_rfl) rfl) rfl rfl ?_
  refine snl h1 ?_
  refine hw_cond _ rfl (fun hc0 => ?_) (fun hc0 => ?_)
  · have hr0 := hc0; (try simp only [hcs, Int.reduceToNat] at hc0)
    refine srg fun N h2 => ?_
    refine stm rfl rfl rfl ?_
    refine st0 (hop_assert_ok (by kernel_rfl) rfl) rfl rfl ?_
    refine stm rfl rfl rfl ?_
    refine st0 (hop_extract rfl rfl) rfl rfl ?_
    refine st0 (hop_extract rfl rfl) rfl rfl ?_
    refine hm_1 4 (hop_alloc (id := 104) (sz := 2) zc_125 rfl rfl (nb rfl) (nb rfl)) rfl rfl pre0 rfl rfl (c' := c + 1) rfl ?_
    refine hm_s1 (hol_storeW ty_125 rfl rfl rfl rfl) rfl rfl (pre1 rfl) (c' := c + 2) rfl ?_
    refine sta rfl rfl rfl ?_
    refine snl h2 ?_
    refine hw_seq (fun Nh3 h3 => ?_)
    refine srg fun N h4 => ?_
    refine stm rfl rfl rfl ?_
    refine st0 (hop_not rfl) rfl rfl ?_
    refine snl h4 ?_
    refine hw_cond _ rfl (fun hc1 => ?_) (fun hc1 => ?_)
    · have hr1 := hc1; (try simp only [hcs, Int.reduceToNat] at hc1)
      exfalso; cases hr1
    have hr1 := hc1; (try simp only [hcs, Int.reduceToNat] at hc1)
    refine hw_skip ?_
    refine h3 _ ?_
    refine hd_start ?_
    refine hd_q 17 (hop_fa fd_125_0 rfl) rfl rfl pre0 rfl rfl (k' := 1) rfl ?_
    refine hd_q 18 (hol_load ty_3 rfl (nb rfl) (nb rfl) (fun h => (by rfl))) rfl rfl (pre1 rfl) rfl rfl (k' := 2) rfl ?_
    refine hd_q 19 (hop_fa fd_125_1 rfl) rfl rfl pre0 rfl rfl (k' := 3) rfl ?_
    refine hd_q 20 (hol_load ty_29 rfl (nb rfl) (nb rfl) (fun h => (by rfl))) rfl rfl (pre1 rfl) rfl rfl (k' := 4) rfl ?_
    refine hd_s1 (hol_storeW ty_86 rfl rfl rfl rfl) rfl rfl (pre1 rfl) (k' := 5) rfl ?_
    refine hd_s1 (hol_storeW ty_3 rfl rfl rfl rfl) rfl rfl (pre1 rfl) (k' := 6) rfl ?_
    refine hd_s1 (hol_storeW ty_29 rfl rfl rfl rfl) rfl rfl (pre1 rfl) (k' := 7) rfl ?_
    refine hd_nil (by kernel_rfl) (by kernel_rfl) (c' := c + 9) rfl ?_
    refine hq_fall ?_
    refine hf_retR0 ok hX RetS.one rfl  [] rfl pre0 (()) (trivial) (by rfl) (by rfl) ((by first | exact .fz _ _ (.imm _) | exact .os _ _ _ _ _ rfl rfl | exact .pt _ _ _ _ _ rfl rfl | exact .nps _ _ _ rfl rfl | (dsimp only; exact .fz _ _ Frz.fz) | exact .fz _ _ (.tup 0 _ _ (fun i hi => absurd hi (Nat.not_lt_zero _))))) ?_
    exact ⟨⟨_, rfl, okz_cell (by first | exact .fz _ _ (.imm _) | exact .os _ _ _ _ _ rfl rfl | exact .pt _ _ _ _ _ rfl rfl | exact .nps _ _ _ rfl rfl | (dsimp only; exact .fz _ _ Frz.fz) | exact .fz _ _ (.tup 0 _ _ (fun i hi => absurd hi (Nat.not_lt_zero _))))⟩, ⟨⟨_, rfl, okz_cell (by first | exact .fz _ _ (.imm _) | exact .os _ _ _ _ _ rfl rfl | exact .pt _ _ _ _ _ rfl rfl | exact .nps _ _ _ rfl rfl | (dsimp only; exact .fz _ _ Frz.fz) | exact .fz _ _ (.tup 0 _ _ (fun i hi => absurd hi (Nat.not_lt_zero _))))⟩, ⟨⟨_, rfl, okz_cell (by first | exact .fz _ _ (.imm _) | exact .os _ _ _ _ _ rfl rfl | exact .pt _ _ _ _ _ rfl rfl | exact .nps _ _ _ rfl rfl | (dsimp only; exact .fz _ _ Frz.fz) | exact .fz _ _ (.tup 0 _ _ (fun i hi => absurd hi (Nat.not_lt_zero _))))⟩, trivial⟩⟩⟩
  have hr0 := hc0; (try simp only [hcs, Int.reduceToNat] at hc0)
  exfalso; cases hr0
end Go.Proofs.YtmcchhmgchgaaaaDoor

