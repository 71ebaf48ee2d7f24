/-
  Calls that change what they are given, and that give what the caller may go on with. Plain lemmas, no program in sight.
-/
import Derived.Test.YtijpdbjcmnpobaaDoorHd
namespace Go.Proofs.YtijpdbjcmnpobaaDoor
set_option linter.unusedSimpArgs false
set_option linter.unusedVariables false
open Go.RowKit

/-- y is what x becomes where the objects of kp go on being the call's, and those of sh are frozen. -/
inductive Kz (kp sh : List (Nat × HObj)) : HV → HV → Prop
  | fz (x y : HV) (h : Fz sh x y) : Kz kp sh x y
  | agg (n : Nat) (f f' : Nat → HV) (h : ∀ i, i < n → Kz kp sh (f i) (f' i)) : Kz kp sh (.agg n f) (.agg n f')
  | tup (n : Nat) (f f' : Nat → HV) (h : ∀ i, i < n → Kz kp sh (f i) (f' i)) : Kz kp sh (.tup n f) (.tup n f')
  | sl (sz n : Nat) (f f' : Nat → Nat → HV) (h : ∀ i j, i < n → j < sz → Kz kp sh (f i j) (f' i j)) : Kz kp sh (.sl sz n f) (.sl sz n f')
  | ifc (t : TypeId) (x y : HV) (h : Kz kp sh x y) : Kz kp sh (.ifc t x) (.ifc t y)
  | fn (fn : Fn) (n : Nat) (f f' : Nat → HV) (h : ∀ i, i < n → Kz kp sh (f i) (f' i)) : Kz kp sh (.fn fn n f) (.fn fn n f')
  | pt (id g i off : Nat) (o : HObj) (ho : hget kp id = some o) (hg : o.g = g) : Kz kp sh (.pt id g i off) (.pt id g i off)
  | os (id g lo n : Nat) (o : HObj) (ho : hget kp id = some o) (hg : o.g = g) : Kz kp sh (.os id g lo n) (.os id g lo n)
  | nps (id g : Nat) (o : HObj) (ho : hget kp id = some o) (hg : o.g = g) : Kz kp sh (.nps id g) (.nps id g)
theorem Kz.sound {w : World} {E E' : Env} {kp sh : List (Nat × HObj)} (hF : ∀ a, E.F a → E'.F a) (hL : ∀ id o, hget kp id = some o → E'.L id = E.L id) (hG : ∀ id o, hget kp id = some o → E'.G o.g) (hsh : Shared w E sh) {x y : HV} (hz : Kz kp sh x y) :
    ∀ {v : Value}, Rep w E v x → Rep w E' v y := by
  induction hz with
  | fz x y h => exact fun hr => (h.sound hsh hr).ext (Ext.just hF)
  | agg n f f' _ ih => intro u h; cases h with | agg cs _ _ vs hn hv h => exact .agg cs n f' vs hn hv (fun i hi => ih i hi (h i hi))
  | tup n f f' _ ih => intro u h; cases h with | tup cs _ _ vs hn hv h => exact .tup cs n f' vs hn hv (fun i hi => ih i hi (h i hi))
  | sl sz n f f' _ ih => intro u h; cases h with | sl A _ c _ _ vs hc hm hA h => exact .sl A n c sz f' vs hc hm (fun hn => by
      obtain ⟨b, o, h1, h2, h3⟩ := hA hn
      exact ⟨b, o, h1, h2, fun i j hi hj => ⟨hF _ (h3 i j hi hj).1, (h3 i j hi hj).2⟩⟩) (fun i j hi hj => ih i j hi hj (h i j hi hj))
  | ifc t x y _ ih => intro u h; cases h with | ifc _ v _ h => exact .ifc t v y (ih h)
  | fn fn n f f' _ ih => intro u h; cases h with | fn _ cs _ _ vs hn hv h => exact .fn fn cs n f' vs hn hv (fun i hi => ih i hi (h i hi))
  | pt id g i off o ho hg =>
    intro u h
    cases h with
    | pt b k _ _ _ _ hgG hh => exact .pt b k id g i off (hg ▸ hG id o ho) (fun l hl hlg => hh l (by rw [← hL id o ho]; exact hl) hlg)
  | os id g lo n o ho hg =>
    intro u h
    cases h with
    | os A _ c _ _ _ hgG hc hm hA h0 =>
      refine .os A n c id g lo (hg ▸ hG id o ho) hc hm (fun hp => ?_) (fun l hl hlg => h0 l (by rw [← hL id o ho]; exact hl) hlg)
      obtain ⟨b, k, h1, h2⟩ := hA hp
      exact ⟨b, k, h1, fun l hl hlg => h2 l (by rw [← hL id o ho]; exact hl) hlg⟩
  | nps id g o ho hg =>
    intro u h
    cases h with
    | npn _ _ hgG hh => exact .npn id g (hg ▸ hG id o ho) (fun l hl hlg => hh l (by rw [← hL id o ho]; exact hl) hlg)
    | npp _ _ _ hgG hc h =>
      cases h with
      | pt b k _ _ _ _ _ hh => exact .npp _ _ _ (hg ▸ hG id o ho) (fun l hl hlg => hc l (by rw [← hL id o ho]; exact hl) hlg) (.pt b k id g 0 0 (hg ▸ hG id o ho) (fun l hl hlg => hh l (by rw [← hL id o ho]; exact hl) hlg))

/-- The caller, as the call finds it. -/
structure Clr where
  K : Nat → Prop
  w0 : World
  F0 : Addr → Prop
  E : Env
  h : Nat → Option HObj
  w : World
  pre : List (Nat × HObj)
/-- What the callee must keep: all but the objects that it is given. -/
def Clr.K' (X : Clr) (b : Nat) : Prop := ∀ id o l, hget X.pre id = some o → X.E.L id = some l → l.A ≠ some b
def Clr.ctx (X : Clr) : Ctx := ⟨X.K', X.w, X.E, []⟩
structure Clr.Ok (X : Clr) : Prop where
  r : R X.K X.w0 X.F0 X.E X.h X.w
  pre : ∀ id o, hget X.pre id = some o → X.h id = some o
theorem Clr.Ok.start {X : Clr} (ok : X.Ok) : R X.K' X.w X.E.F X.E (hget X.pre) X.w := by
  have r := ok.r
  refine ⟨rfl, rfl, rfl, Nat.le_refl _, fun _ _ _ => rfl, r.frz, fun a ha => .inl ha, fun b hb id o l ho hl hA => ?_, r.libw, fun id o ho => ?_, fun id id' o o' l l' b ho ho' hl hl' hb hb' => r.inj id id' o o' l l' b (ok.pre _ _ ho) (ok.pre _ _ ho') hl hl' hb hb'⟩
  · obtain ⟨l2, hl2, a⟩ := r.obj id o (ok.pre _ _ ho)
    rw [hl] at hl2; injection hl2 with hl2; subst hl2
    exact a.notK hA (r.lib.ok _ hb) (r.klib _ hb)
  · obtain ⟨l, hl, a⟩ := r.obj id o (ok.pre _ _ ho)
    refine ⟨l, hl, a.g, a.G, a.sz, a.pos, ?_⟩
    rcases a.at_ with h0 | ⟨b, cs, g1, g2, g3, g4, g5, g6, g8, g9⟩ | ⟨b, ob, g1, g2, g3, g4⟩
    · exact .inl h0
    · exact .inr (.inl ⟨b, cs, g1, g2, g3, g4, g5, fun _ hk => hk id o l ho hl g1, g8, g9⟩)
    · exact .inr (.inr ⟨b, ob, g1, g2, g3, fun _ hk => hk id o l ho hl g1⟩)
theorem hupd_hget (h : Nat → Option HObj) : ∀ (p : List (Nat × HObj)) (id : Nat), hupd h p id = match hget p id with | some o => some o | none => h id
  | [], id => rfl
  | (k, o) :: p, id => by
    show hset (hupd h p) k o id = _
    rw [hget_cons]
    by_cases hk : id = k
    · subst hk; rw [hset_same, hset_same]
    · rw [hset_ne _ _ hk, hset_ne _ _ hk, hupd_hget h p id]
/-- The callee's end, in the caller's words. kp: what goes on being the call's. -/
theorem Clr.Ok.back {X : Clr} (ok : X.Ok) {E2 : Env} {h2 : Nat → Option HObj} {w' : World} {c' : Nat} (e2 : Ext X.w X.E w' E2) (r2 : R X.K' X.w X.E.F E2 h2 w') (hG2 : ∀ g, E2.G g → g < c') {kp sh : List (Nat × HObj)} (hsh : Shared w' E2 sh)
    (hpk : ∀ id o, hget X.pre id = some o → ∃ o', hget kp id = some o')
    (hkp : ∀ id o', hget kp id = some o' → ∃ o, h2 id = some o ∧ o.g = o'.g ∧ o.n = o'.n ∧ o.sz = o'.sz ∧ o.ty = o'.ty ∧ o.fl ≤ o'.fl ∧ (∀ i j, i < o.n → j < o.sz → Kz kp sh (o.f i j) (o'.f i j)) ∧ (o'.n < o'.fl → o = o')) :
    ∃ E3, Ext X.w X.E w' E3 ∧ R X.K X.w0 X.F0 E3 (hupd X.h kp) w' ∧ (∀ g, E3.G g → g < c') ∧ (∀ g, E3.G g → X.E.G g ∨ ∃ id o, hget kp id = some o ∧ o.g = g) ∧ ∀ v x y, Kz kp sh x y → Rep w' E2 v x → Rep w' E3 v y := by
  have r := ok.r
  let E3 : Env := ⟨E2.F, fun id => match hget kp id with | some _ => E2.L id | none => X.E.L id, fun g => X.E.G g ∨ ∃ id o, hget kp id = some o ∧ o.g = g⟩
  have hL : ∀ id o, hget kp id = some o → E3.L id = E2.L id := fun id o ho => by show (match hget kp id with | some _ => E2.L id | none => X.E.L id) = _; rw [ho]
  have hLn : ∀ id, hget kp id = none → E3.L id = X.E.L id := fun id ho => by show (match hget kp id with | some _ => E2.L id | none => X.E.L id) = _; rw [ho]
  have kz : ∀ v x y, Kz kp sh x y → Rep w' E2 v x → Rep w' E3 v y := fun v x y hz hr => hz.sound (E := E2) (E' := E3) (fun _ h => h) hL (fun id o ho => .inr ⟨id, o, ho, rfl⟩) hsh hr
  have e3 : Ext X.w X.E w' E3 := ⟨e2.sz, e2.F, fun g hg => .inl hg, fun id l hl hg => by
    cases hk : hget kp id with
    | none => rw [hLn id hk] at hl; exact hl
    | some o => rw [hL id o hk] at hl; exact e2.L id l hl hg⟩
  -- where the caller's objects lie
  have own : ∀ id o l b, X.h id = some o → X.E.L id = some l → l.A = some b → b < X.w.heap.size ∧ (b < X.w0.heap.size → ¬ X.K b) ∧ (hget X.pre id = none → X.K' b) := by
    intro id o l b ho hl hA
    obtain ⟨l2, hl2, a⟩ := r.obj id o ho
    rw [hl] at hl2; injection hl2 with hl2; subst hl2
    refine ⟨a.lt hA, ?_, fun hn id' o' l' ho' hl' hA' => ?_⟩
    · exact a.notK hA
    · have := r.inj id id' o o' l l' b ho (ok.pre _ _ ho') hl hl' hA hA'
      subst this
      rw [hn] at ho'; cases ho'
  have notpre : ∀ b, b < X.w0.heap.size → X.K b → X.K' b := fun b hb hK id o l ho hl hA => (own id o l b (ok.pre _ _ ho) hl hA).2.1 hb hK
  have ispre : ∀ b, ¬ X.K' b → ∃ id o l, hget X.pre id = some o ∧ X.E.L id = some l ∧ l.A = some b := by
    intro b hb
    unfold Clr.K' at hb
    simp only [Classical.not_forall, ne_eq, Classical.not_not] at hb
    obtain ⟨id, o, l, h1, h2, h3⟩ := hb
    exact ⟨id, o, l, h1, h2, h3⟩
  -- the objects of kp
  have kpo : ∀ id o', hget kp id = some o' → ∃ l, E3.L id = some l ∧ ObjAt w' E3 X.K X.w0.heap.size o' l ∧ E2.L id = some l ∧ (∀ b, l.A = some b → X.w.heap.size ≤ b ∨ ¬ X.K' b) := by
    intro id o' hk
    obtain ⟨o, ho, h1, h2', h3, h4, h5, h6, h7⟩ := hkp id o' hk
    obtain ⟨l, hl, a⟩ := r2.obj id o ho
    refine ⟨l, by rw [hL id o' hk]; exact hl, ⟨a.g.trans h1, .inr ⟨id, o', hk, rfl⟩, a.sz.trans h3, by rw [← h3]; exact a.pos, ?_⟩, hl, fun b hb => ?_⟩
    · rcases a.at_ with ⟨g1, g2, g3⟩ | ⟨b, cs, g1, g2, g3, g4, g5, g6, ⟨vs, g8⟩, g9⟩ | ⟨b, ob, g1, g2, g3, g6⟩
      rotate_right
      · refine .inr (.inr ⟨b, ob, g1, g2, by rw [← h7 (by rw [← h2', g3.n]; rw [g3.fl] at h5; omega)]; exact g3, fun hlt => ?_⟩)
        have hlt' := Nat.lt_of_lt_of_le hlt r.size
        obtain ⟨id', o1, l1, p1, p2, p3⟩ := ispre b (g6 hlt')
        exact (own id' o1 l1 b (ok.pre _ _ p1) p2 p3).2.1 hlt
      · refine .inl ⟨g1, g2, by rw [← h2']; exact g3.1, ?_⟩
        rcases Nat.lt_or_ge o'.n o'.fl with h | h
        · rw [← h7 h]; exact g3.2
        · exact h
      · refine .inr (.inl ⟨b, cs, g1, by rw [← h4]; exact g2, by rw [← h3]; exact g3, by rw [← h2']; exact g4, g5, fun hlt => ?_, ⟨vs, fun i j hi hj => ?_⟩, fun k hk' => ?_, ?_⟩)
        · have hlt' := Nat.lt_of_lt_of_le hlt r.size
          obtain ⟨id', o1, l1, p1, p2, p3⟩ := ispre b (g6 hlt')
          exact (own id' o1 l1 b (ok.pre _ _ p1) p2 p3).2.1 hlt
        · rw [← h2'] at hi; rw [← h3] at hj
          have := g8 i j hi hj
          rw [← h3]
          exact ⟨this.1, this.2.1, kz _ _ _ (h6 i j hi hj) this.2.2⟩
        · have := g9.1 k hk'
          rw [← h3]
          exact Nat.lt_of_lt_of_le this (Nat.mul_le_mul_right _ h5)
        · rcases Nat.lt_or_ge o'.n o'.fl with h | h
          · rw [← h7 h]; exact g9.2
          · exact h
    · have g6 := a.notK hb
      · by_cases hlt : b < X.w.heap.size
        · exact .inr (g6 hlt)
        · exact .inl (by omega)
  -- the caller's other objects
  have oth : ∀ id o, hget kp id = none → X.h id = some o → ∃ l, E3.L id = some l ∧ ObjAt w' E3 X.K X.w0.heap.size o l ∧ X.E.L id = some l ∧ (∀ b, l.A = some b → b < X.w.heap.size ∧ X.K' b) := by
    intro id o hk ho
    have hpn : hget X.pre id = none := by
      cases hp : hget X.pre id with
      | none => rfl
      | some o1 => obtain ⟨o', ho'⟩ := hpk id o1 hp; rw [hk] at ho'; cases ho'
    obtain ⟨l, hl, a⟩ := r.obj id o ho
    have hb : ∀ b, l.A = some b → b < X.w.heap.size ∧ X.K' b := fun b hb => ⟨(own id o l b ho hl hb).1, (own id o l b ho hl hb).2.2 hpn⟩
    refine ⟨l, by rw [hLn id hk]; exact hl, a.ext e3 (fun b hA => r2.keep b (hb b hA).1 (hb b hA).2) (fun b k hA hF => ?_), hl, hb⟩
    rcases r2.fnew _ hF with h1 | h1 | h1
    · exact h1
    · exact absurd h1 (by have := (hb b hA).1; simp; omega)
    · exact absurd (hb b hA).2 h1
  have all : ∀ id o, hupd X.h kp id = some o → ∃ l, E3.L id = some l ∧ ObjAt w' E3 X.K X.w0.heap.size o l := by
    intro id o ho
    rw [hupd_hget] at ho
    cases hk : hget kp id with
    | some o' => rw [hk] at ho; injection ho with ho; subst ho; obtain ⟨l, h1, h2, _⟩ := kpo id o' hk; exact ⟨l, h1, h2⟩
    | none => rw [hk] at ho; obtain ⟨l, h1, h2, _⟩ := oth id o hk ho; exact ⟨l, h1, h2⟩
  refine ⟨E3, e3, ⟨r2.os.trans r.os, r2.tape.trans r.tape, r2.output.trans r.output, Nat.le_trans r.size r2.size, fun k hk hK => (r2.keep k (Nat.lt_of_lt_of_le hk r.size) (notpre k hk hK)).trans (r.keep k hk hK), r2.frz, fun a ha => ?_, r.klib, r.lib, all, fun id id' o o' l l' b ho ho' hl hl' hb hb' => ?_⟩, fun g hg => ?_, fun g hg => hg, kz⟩
  · rcases r2.fnew a ha with h1 | h1 | h1
    · exact r.fnew a h1
    · exact .inr (.inl (Nat.le_trans r.size h1))
    · obtain ⟨id, o, l, p1, p2, p3⟩ := ispre _ h1
      by_cases hlt : a.block < X.w0.heap.size
      · exact .inr (.inr ((own id o l _ (ok.pre _ _ p1) p2 p3).2.1 hlt))
      · exact .inr (.inl (by omega))
  · rw [hupd_hget] at ho ho'
    cases hk : hget kp id with
    | some o1 =>
      obtain ⟨l1, h1, _, h3, h4⟩ := kpo id o1 hk
      rw [hl] at h1; injection h1 with h1; subst h1
      cases hk' : hget kp id' with
      | some o2 =>
        obtain ⟨l2, g1, _, g3, g4⟩ := kpo id' o2 hk'
        rw [hl'] at g1; injection g1 with g1; subst g1
        obtain ⟨p, hp, _⟩ := hkp id o1 hk
        obtain ⟨q, hq, _⟩ := hkp id' o2 hk'
        exact r2.inj id id' p q l l' b hp hq h3 g3 hb hb'
      | none =>
        rw [hk'] at ho'
        obtain ⟨l2, g1, _, g3, g4⟩ := oth id' o' hk' ho'
        rw [hl'] at g1; injection g1 with g1; subst g1
        rcases h4 b hb with h5 | h5
        · have := (g4 b hb').1; omega
        · exact absurd (g4 b hb').2 h5
    | none =>
      rw [hk] at ho
      obtain ⟨l1, h1, _, h3, h4⟩ := oth id o hk ho
      rw [hl] at h1; injection h1 with h1; subst h1
      cases hk' : hget kp id' with
      | some o2 =>
        obtain ⟨l2, g1, _, g3, g4⟩ := kpo id' o2 hk'
        rw [hl'] at g1; injection g1 with g1; subst g1
        rcases g4 b hb' with h5 | h5
        · have := (h4 b hb).1; omega
        · exact absurd (h4 b hb).2 h5
      | none =>
        rw [hk'] at ho'
        obtain ⟨l2, g1, _, g3, g4⟩ := oth id' o' hk' ho'
        rw [hl'] at g1; injection g1 with g1; subst g1
        exact r.inj id id' o o' l l' b ho ho' h3 g3 hb hb'
  · rcases hg with hg | ⟨id, o', hk, rfl⟩
    · exact hG2 g (e2.G g hg)
    · obtain ⟨o, ho, h1, _⟩ := hkp id o' hk
      obtain ⟨l, hl, a⟩ := r2.obj id o ho
      rw [← h1]
      exact hG2 _ a.G

/-- What a call ends with, in the reader's words. -/
inductive HEnd where
  | ret (x : HV)
  | pan (x : HV)
def EndRep (w : World) (E : Env) : Ending → HEnd → Prop
  | .returned v, .ret x => Rep w E v x
  | .panicked ch, .pan x => ∃ v, ch = [{ v := v, recovered := false }] ∧ Rep w E v x
  | _, _ => False
/-- What the call leaves: its end, the objects that go on being the caller's, and a clock. -/
def FunPost (X : Clr) (Post : HEnd → List (Nat × HObj) → Nat → Prop) (e : Ending) (w' : World) : Prop :=
  ∃ x kp c' E', Post x kp c' ∧ Ext X.w X.E w' E' ∧ R X.K X.w0 X.F0 E' (hupd X.h kp) w' ∧ (∀ g, E'.G g → g < c') ∧ (∀ g, E'.G g → X.E.G g ∨ ∃ id o, hget kp id = some o ∧ o.g = g) ∧ EndRep w' E' e x
def HFun (P : Program) (f : FuncId) (c : Nat) (args : List HV) (pre : List (Nat × HObj)) (Post : HEnd → List (Nat × HObj) → Nat → Prop) : Prop := FnOk P f ∧
  ∀ (X : Clr) (vs : List Value), X.Ok → X.pre = pre → RepAll X.w X.E vs args → (∀ g, X.E.G g → g < c) → Calls P f vs.toArray X.w (FunPost X Post)

/-! A function's begin and end. -/
theorem hget_mem {p : List (Nat × HObj)} {id : Nat} {o : HObj} (h : hget p id = some o) : (id, o) ∈ p := by
  induction p with
  | nil => cases h
  | cons q p ih =>
    obtain ⟨k, x⟩ := q
    rw [hget_cons] at h
    unfold hset at h
    split at h
    · rename_i e; injection h with h; subst h; subst e; exact List.mem_cons_self ..
    · exact List.mem_cons_of_mem _ (ih h)
section
variable {P : Program} {Post : HEnd → List (Nat × HObj) → Nat → Prop}
theorem hfun_of {f : FuncId} {fn : Func} {c : Code} (hf : P.funcs[f]? = some fn) (hb : fn.body = some c) (hn : (fn.name == "runtime.NumGoroutine") = false) (clk : Nat) (args : List HV) (pre : List (Nat × HObj)) (tm : List (Nat × TV)) (htm : slots 0 args = tm) (n : Nat) (hnt : fn.ntmps = n) (hlen : Nat.ble args.length n = true)
    (h : ∀ X : Clr, X.Ok → X.pre = pre → HWp X.ctx P c ⟨n, tm, pre, clk⟩ (bodyPost P fn (FunPost X Post))) : HFun P f clk args pre Post := by
  refine ⟨⟨fn, c, hf, hb, hn⟩, fun X vs ok hX hr hG => calls_of_wp hf hb (h X ok hX _ X.w ?_)⟩
  obtain ⟨hl, hg⟩ := hr.get
  have hlen : args.length ≤ n := by simpa using hlen
  have rs := ok.start
  rw [hX] at rs
  refine ⟨X.E, Ext.refl _ _, rs, hG, ?_, rfl, fun t x hx => ?_⟩
  · simp [hl, hnt]; omega
  · rw [← htm] at hx
    obtain ⟨i, y, rfl, h2, rfl⟩ := tget_slots args 0 t x hx
    obtain ⟨v, hv, hrep⟩ := hg i y h2
    have hi : i < vs.length := by
      rcases Nat.lt_or_ge i vs.length with h | h
      · exact h
      · rw [List.getElem?_eq_none h] at hv; cases hv
    have : ({ tmps := vs.toArray ++ Array.replicate (fn.ntmps - vs.toArray.size) undef, defers := [] } : Act).tmps.getD (0 + i) undef = v := by
      rw [Nat.zero_add]
      simp only [Array.getD_eq_getD_getElem?]
      rw [Array.getElem?_append_left (by simpa using hi)]
      simp [hv]
    rw [this]
    exact hrep
/-- What is kept, told anew. -/
def OKz (kp sh : List (Nat × HObj)) (o o' : HObj) : Prop := o.g = o'.g ∧ o.n = o'.n ∧ o.sz = o'.sz ∧ o.ty = o'.ty ∧ o.fl ≤ o'.fl ∧ (∀ i j, i < o.n → j < o.sz → Kz kp sh (o.f i j) (o'.f i j)) ∧ (o'.n < o'.fl → o = o')
theorem OKz.of {kp sh : List (Nat × HObj)} {g n sz ty fl : Nat} {f f' : Nat → Nat → HV} (h : ∀ i j, i < n → j < sz → Kz kp sh (f i j) (f' i j)) (hfn : fl ≤ n := by first | exact Nat.zero_le _ | exact Nat.le_refl _ | omega) : OKz kp sh ⟨g, n, sz, ty, fl, f⟩ ⟨g, n, sz, ty, fl, f'⟩ := ⟨rfl, rfl, rfl, rfl, Nat.le_refl _, h, fun h => absurd hfn (Nat.not_le_of_lt h)⟩
def Kept (kp0 sh hp : List (Nat × HObj)) : List (Nat × HObj) → Prop
  | [] => True
  | (id, o') :: r => (∃ o, hget hp id = some o ∧ OKz kp0 sh o o') ∧ Kept kp0 sh hp r
theorem Kept.get {kp0 sh hp : List (Nat × HObj)} : ∀ {kp : List (Nat × HObj)}, Kept kp0 sh hp kp → ∀ id o', hget kp id = some o' → ∃ o, hget hp id = some o ∧ OKz kp0 sh o o'
  | [], _, id, o', h => by cases h
  | (k, x) :: r, hk, id, o', h => by
    rw [hget_cons] at h
    unfold hset at h
    split at h
    · rename_i e; injection h with h; subst h; subst e; exact hk.1
    · exact Kept.get hk.2 id o' h
theorem FunPost.of {X : Clr} (ok : X.Ok) {E : Env} {s : HSt} {w' : World} (e0 : Ext X.w X.E w' E) (r : R X.K' X.w X.E.F E (hget s.hp) w') (hG : ∀ g, E.G g → g < s.clk) (sh : List (Nat × HObj)) (hd : dupfree (sh.map (·.1)) = true) (hsh : ∀ p ∈ sh, hget s.hp p.1 = some p.2)
    (kp : List (Nat × HObj)) (hpk : (X.pre.all fun p => (hget kp p.1).isSome) = true) (hks : (kp.all fun p => !(sh.map (·.1)).any (Nat.beq p.1)) = true) (hkp : Kept kp sh s.hp kp) {x y : HV} {v : Value} (hz : Kz kp sh x y) (hv : Rep w' E v x) (hP : Post (.ret y) kp s.clk) : FunPost X Post (.returned v) w' := by
  obtain ⟨E1, e1, hL, hG1, hs1, r1⟩ := r.shareAll sh hd hsh
  obtain ⟨E3, e3, r3, hG3, hGk, kz⟩ := ok.back (e0.trans e1) r1 (fun g hg => hG g (by rw [← hG1]; exact hg)) (kp := kp) (sh := sh) hs1 (fun id o ho => by
      have := List.all_eq_true.1 hpk _ (hget_mem ho)
      exact Option.isSome_iff_exists.1 this) (fun id o' ho' => by
      obtain ⟨o, h1, h2⟩ := hkp.get id o' ho'
      have := List.all_eq_true.1 hks _ (hget_mem ho')
      refine ⟨o, ?_, h2⟩
      rw [hupd_ne _ _ _ (by simpa [List.map_map, Function.comp_def] using this)]
      exact h1)
  exact ⟨.ret y, kp, s.clk, E3, hP, e3, r3, hG3, hGk, kz v x y hz (hv.ext e1)⟩
theorem hf_ret0 {X : Clr} (ok : X.Ok) {fn : Func} {s : HSt} {y : HV} (hres : fn.results = #[]) (sh : List (Nat × HObj)) (hd : dupfree (sh.map (·.1)) = true) (hsh : ∀ p ∈ sh, hget s.hp p.1 = some p.2)
    (kp : List (Nat × HObj)) (hpk : (X.pre.all fun p => (hget kp p.1).isSome) = true) (hks : (kp.all fun p => !(sh.map (·.1)).any (Nat.beq p.1)) = true) (hz : Kz kp sh (.tup 0 fun _ => default) y) (hP : Post (.ret y) kp s.clk) (hkp : Kept kp sh s.hp kp) : HQ X.ctx (bodyPost P fn (FunPost X Post)) .ret s := by
  intro a w' ⟨E, e0, r, hG, hsz, hdf, ht⟩
  refine ⟨hdf, _, ?_, FunPost.of ok e0 r hG sh hd hsh kp hpk hks hkp hz (.tup #[] 0 (fun _ => default) (fun _ => undef) rfl (fun i hi => absurd hi (Nat.not_lt_zero _)) (fun i hi => absurd hi (Nat.not_lt_zero _))) hP⟩
  show (results fn a.tmps).run P w' = .ok (.tuple #[]) w'
  unfold results
  rw [hres]
  simp
theorem hf_ret1 {X : Clr} (ok : X.Ok) {fn : Func} {rv : ResultVar} {s : HSt} {x y : HV} (hres : fn.results = #[rv]) (hrv : RVal P s rv x) (sh : List (Nat × HObj)) (hd : dupfree (sh.map (·.1)) = true) (hsh : ∀ p ∈ sh, hget s.hp p.1 = some p.2)
    (kp : List (Nat × HObj)) (hpk : (X.pre.all fun p => (hget kp p.1).isSome) = true) (hks : (kp.all fun p => !(sh.map (·.1)).any (Nat.beq p.1)) = true) (hz : Kz kp sh x y) (hP : Post (.ret y) kp s.clk) (hkp : Kept kp sh s.hp kp) : HQ X.ctx (bodyPost P fn (FunPost X Post)) .ret s := by
  intro a w' ⟨E, e0, r, hG, hsz, hdf, ht⟩
  obtain ⟨v, h1, h2⟩ := hrv X.ctx a w' E r ht
  refine ⟨hdf, v, ?_, FunPost.of ok e0 r hG sh hd hsh kp hpk hks hkp hz h2 hP⟩
  have : (results fn a.tmps).run P w' = .ok v w' := by
    unfold results
    rw [hres]
    cases rv with
    | tmp t => simp at h1 ⊢; exact h1
    | cell p t => simp [Sem.run_bind] at h1 ⊢; simp [h1]
  exact this
theorem hf_ret2 {X : Clr} (ok : X.Ok) {fn : Func} {rv1 rv2 : ResultVar} {s : HSt} {x1 x2 y : HV} (hres : fn.results = #[rv1, rv2]) (hrv1 : RVal P s rv1 x1) (hrv2 : RVal P s rv2 x2) (sh : List (Nat × HObj)) (hd : dupfree (sh.map (·.1)) = true) (hsh : ∀ p ∈ sh, hget s.hp p.1 = some p.2)
    (kp : List (Nat × HObj)) (hpk : (X.pre.all fun p => (hget kp p.1).isSome) = true) (hks : (kp.all fun p => !(sh.map (·.1)).any (Nat.beq p.1)) = true) (hz : Kz kp sh (t2 x1 x2) y) (hP : Post (.ret y) kp s.clk) (hkp : Kept kp sh s.hp kp) : HQ X.ctx (bodyPost P fn (FunPost X Post)) .ret s := by
  intro a w' ⟨E, e0, r, hG, hsz, hdf, ht⟩
  obtain ⟨v1, h1, g1⟩ := hrv1 X.ctx a w' E r ht
  obtain ⟨v2, h2, g2⟩ := hrv2 X.ctx a w' E r ht
  have hrep : Rep w' E (.tuple #[v1, v2]) (.tup 2 (fun i => match i with | 0 => x1 | _ => x2)) :=
    .tup _ 2 _ (fun i => match i with | 0 => v1 | _ => v2) rfl (fun i hi => by match i, hi with | 0, _ => rfl | 1, _ => rfl) (fun i hi => by match i, hi with | 0, _ => exact g1 | 1, _ => exact g2)
  refine ⟨hdf, _, ?_, FunPost.of ok e0 r hG sh hd hsh kp hpk hks hkp hz hrep hP⟩
  have : (results fn a.tmps).run P w' = .ok (.tuple #[v1, v2]) w' := by
    unfold results
    rw [hres]
    cases rv1 <;> cases rv2 <;> (simp [Sem.run_bind] at h1 h2 ⊢)
    all_goals first | done | (try (first | rw [andThen_chain h1] | skip); try (first | rw [andThen_chain h2] | skip); try simp [h1, h2])
  exact this
theorem hf_ret3 {X : Clr} (ok : X.Ok) {fn : Func} {rv1 rv2 rv3 : ResultVar} {s : HSt} {x1 x2 x3 y : HV} (hres : fn.results = #[rv1, rv2, rv3]) (hrv1 : RVal P s rv1 x1) (hrv2 : RVal P s rv2 x2) (hrv3 : RVal P s rv3 x3) (sh : List (Nat × HObj)) (hd : dupfree (sh.map (·.1)) = true) (hsh : ∀ p ∈ sh, hget s.hp p.1 = some p.2)
    (kp : List (Nat × HObj)) (hpk : (X.pre.all fun p => (hget kp p.1).isSome) = true) (hks : (kp.all fun p => !(sh.map (·.1)).any (Nat.beq p.1)) = true) (hz : Kz kp sh (t3 x1 x2 x3) y) (hP : Post (.ret y) kp s.clk) (hkp : Kept kp sh s.hp kp) : HQ X.ctx (bodyPost P fn (FunPost X Post)) .ret s := by
  intro a w' ⟨E, e0, r, hG, hsz, hdf, ht⟩
  obtain ⟨v1, h1, g1⟩ := hrv1 X.ctx a w' E r ht
  obtain ⟨v2, h2, g2⟩ := hrv2 X.ctx a w' E r ht
  obtain ⟨v3, h3, g3⟩ := hrv3 X.ctx a w' E r ht
  have hrep : Rep w' E (.tuple #[v1, v2, v3]) (.tup 3 (fun i => match i with | 0 => x1 | 1 => x2 | _ => x3)) :=
    .tup _ 3 _ (fun i => match i with | 0 => v1 | 1 => v2 | _ => v3) rfl (fun i hi => by match i, hi with | 0, _ => rfl | 1, _ => rfl | 2, _ => rfl) (fun i hi => by match i, hi with | 0, _ => exact g1 | 1, _ => exact g2 | 2, _ => exact g3)
  refine ⟨hdf, _, ?_, FunPost.of ok e0 r hG sh hd hsh kp hpk hks hkp hz hrep hP⟩
  have : (results fn a.tmps).run P w' = .ok (.tuple #[v1, v2, v3]) w' := by
    unfold results
    rw [hres]
    cases rv1 <;> cases rv2 <;> cases rv3 <;> (simp [Sem.run_bind] at h1 h2 h3 ⊢)
    all_goals first | done | (try (first | rw [andThen_chain h1] | skip); try (first | rw [andThen_chain h2] | skip); try (first | rw [andThen_chain h3] | skip); try simp [h1, h2, h3])
  exact this
/-- Falling off the end is a return. -/
theorem hq_fall {C : Ctx} {fn : Func} {R0 : Ending → World → Prop} {s : HSt} (h : HQ C (bodyPost P fn R0) .ret s) : HQ C (bodyPost P fn R0) .normal s := h

/-! The call, in the caller's walk. -/
/-- What a panic asks. -/
def HPan (C : Ctx) (Q : Exit → Act → World → Prop) (s : HSt) (x : HV) : Prop := ∀ a w, ∀ E v, Ext C.w0 C.E0 w E → R C.K C.w0 C.E0.F E (hget s.hp) w → (∀ g, E.G g → g < s.clk) → a.tmps.size = s.n → DefOk w E C.ds a.defers → (∀ t x, tget s.tm t = some x → TVRep w E a (a.tmps.getD t undef) x) → Rep w E v x → Q (.panic [{ v := v, recovered := false }]) a w
theorem hf_call {C : Ctx} {ops : Array Oper} {Q : Exit → Act → World → Prop} {n clk : Nat} {tm : List (Nat × TV)} {hp : List (Nat × HObj)} {rest : List Oper} {ty : TypeId} {pos : String} {af : Array Edge} {f : FuncId} {args : List Operand} {at_ : Array TypeId} {xs : List HV} {pre : List (Nat × HObj)} (d : Nat)
    (hc : HFun P f clk xs pre Post) (hx : ovAll (pview (tget tm)) args xs) (hpre : ∀ p ∈ pre, hget hp p.1 = some p.2) (hlt : Nat.blt d n = true) (hk : nokey tm d = true)
    (h : ∀ r kp c', Post (.ret r) kp c' → HSeq C P ops rest ⟨n, (d, .v r) :: tm, kp ++ hp, c'⟩ Q) (hpan : ∀ x kp c', Post (.pan x) kp c' → HPan C Q ⟨n, tm, kp ++ hp, c'⟩ x) :
    HSeq C P ops (⟨some d, .call ⟨.value (.func f), args.toArray, at_⟩, ty, pos, af, none⟩ :: rest) ⟨n, tm, hp, clk⟩ Q := by
  intro a w ⟨E, e0, r, hG, hsz, hdf, ht⟩
  have hlt : d < n := by simpa [Nat.blt_eq] using hlt
  unfold wpSeq
  rw [if_pos (by simp [Region.wanted])]
  have hrep := hx.rep (w := w) (E := E) (ρ := a.eval) (fun x hv hx' h => by
    cases x with
    | tmp t =>
      simp only [ovl, pview] at h
      cases hq : tget tm t with
      | none => rw [hq] at h; cases h
      | some u => rw [hq] at h; cases u with
        | v y => injection h with h; subst h; exact ht t _ hq
        | un j b y => cases h
    | const v => exact rep_cst w E _ v _ h
    | global k => injection h with h; subst h; exact .imm _
    | func f => injection h with h; subst h; exact .fn (.func f) #[] 0 _ (fun _ => undef) rfl (fun i hi => absurd hi (Nat.not_lt_zero _)) (fun i hi => absurd hi (Nat.not_lt_zero _)))
  unfold Oper.wp execOp
  have hargs : args.toArray.map a.eval = (args.map a.eval).toArray := by simp
  simp only [resolve, Act.eval, Deferred.ofValue, invoke, Sem.run_bind, Sem.run_pure, Result.andThen_ok, Array.empty_append, Array.append_empty]
  rw [run_callFunc hc.1]
  simp only [Oper.upon]
  have hcalls := hc.2 ⟨C.K, C.w0, C.E0.F, E, hget hp, w, pre⟩ (args.map a.eval) ⟨r, fun id o ho => hpre (id, o) (hget_mem ho)⟩ rfl hrep hG
  rw [← hargs] at hcalls
  refine Calls.mono hcalls ?_
  rintro e w' ⟨x, kp, c', E', hP, e', r', hG', _, hv⟩
  cases e with
  | returned v =>
    cases x with
    | pan x => exact hv.elim
    | ret x =>
      refine h x kp c' hP _ w' ⟨E', e0.trans e', by simp only [hget_append]; exact r', hG', by simp [Act.put, hsz], hdf.ext e', fun t y hy => ?_⟩
      simp only [tget_cons] at hy
      split at hy
      · rename_i htd
        subst htd
        injection hy with hy
        subst hy
        rw [getD_put_same (by rw [hsz]; exact hlt)]
        exact hv
      · rename_i htd
        rw [getD_put_ne htd]
        have := (ht t y hy).ext e'
        cases y with
        | v z => exact this
        | un j b z =>
          have hne := nokey_spec hk t j b z hy
          simp only [TVRep, getD_put_ne hne] at this ⊢; exact this
  | panicked ch =>
    cases x with
    | ret x => exact hv.elim
    | pan x =>
      obtain ⟨v, rfl, hv⟩ := hv
      exact hpan x kp c' hP a w' E' v (e0.trans e') (by simp only [hget_append]; exact r') hG' hsz (hdf.ext e') (fun t y hy => (ht t y hy).ext e') hv
  | outgrown => cases x <;> exact hv.elim
/-- A panic goes on to the caller. -/
theorem hf_pan {X : Clr} (ok : X.Ok) {fn : Func} {s : HSt} {x y : HV} (kp : List (Nat × HObj)) (hpk : (X.pre.all fun p => (hget kp p.1).isSome) = true) (hkp : Kept kp [] s.hp kp) (hz : Kz kp [] x y) (hP : Post (.pan y) kp s.clk) : HPan X.ctx (bodyPost P fn (FunPost X Post)) s x := by
  intro a w' E v e0 r hG hsz hdf ht hv
  refine ⟨hdf, ?_⟩
  obtain ⟨E3, e3, r3, hG3, hGk, kz⟩ := ok.back e0 r hG (kp := kp) (sh := []) (fun id o h => by cases h) (fun id o ho => by
      have := List.all_eq_true.1 hpk _ (hget_mem ho)
      exact Option.isSome_iff_exists.1 this) (fun id o' ho' => hkp.get id o' ho')
  exact ⟨.pan y, kp, s.clk, E3, hP, e3, r3, hG3, hGk, v, rfl, kz v x y hz hv⟩
/-- Objects are frozen, a slot told anew. -/
theorem hsub_shr {C : Ctx} {n clk : Nat} {tm : List (Nat × TV)} {hp : List (Nat × HObj)} (t : Nat) (sh : List (Nat × HObj)) (hd : dupfree (sh.map (·.1)) = true) (hsh : ∀ p ∈ sh, hget hp p.1 = some p.2) {x y : HV} (ht : tget tm t = some (.v x)) (hz : Fz sh x y) :
    HSub C ⟨n, tm, hp, clk⟩ ⟨n, (t, .v y) :: tm, sh.map (fun p => (p.1, p.2.full)) ++ hp, clk⟩ := by
  intro a w ⟨E, e0, r, hG, hsz, hdf, htm⟩
  obtain ⟨E1, e1, hL, hG1, hs1, r1⟩ := r.shareAll sh hd hsh
  refine ⟨E1, e0.trans e1, by simp only [hget_append]; exact r1, fun g hg => hG g (by rw [← hG1]; exact hg), hsz, hdf.ext e1, fun t' z hz' => ?_⟩
  simp only [tget_cons] at hz'
  split at hz'
  · rename_i e; subst e; injection hz' with hz'; subst hz'
    exact (hz.sound hs1 ((htm t' _ ht).ext e1)).ext (Ext.just fun _ h => h)
  · exact (htm t' z hz').ext e1
theorem HSub.seq {C : Ctx} {ops : Array Oper} {Q : Exit → Act → World → Prop} {s s' : HSt} {l : List Oper} (hs : HSub C s s') (h : HSeq C P ops l s' Q) : HSeq C P ops l s Q := fun a w ha => h a w (hs a w ha)

/-! The usual shape: it returns; or it returns or panics. -/
@[reducible] def RetP {α : Type} (I : α → Nat → Prop) (r : α → HV) (kp : α → List (Nat × HObj)) : HEnd → List (Nat × HObj) → Nat → Prop := fun e o c' => ∃ x, I x c' ∧ e = .ret (r x) ∧ o = kp x
@[reducible] def RoP {α β : Type} (I : α → Nat → Prop) (r : α → HV) (kp : α → List (Nat × HObj)) (J : β → Nat → Prop) (q : β → HV) (kq : β → List (Nat × HObj)) : HEnd → List (Nat × HObj) → Nat → Prop := fun e o c' => (∃ x, I x c' ∧ e = .ret (r x) ∧ o = kp x) ∨ (∃ y, J y c' ∧ e = .pan (q y) ∧ o = kq y)
section
variable {α β : Type} {I : α → Nat → Prop} {r : α → HV} {kpf : α → List (Nat × HObj)} {J : β → Nat → Prop} {q : β → HV} {kqf : β → List (Nat × HObj)}
theorem hf_callR {C : Ctx} {ops : Array Oper} {Q : Exit → Act → World → Prop} {n clk : Nat} {tm : List (Nat × TV)} {hp : List (Nat × HObj)} {rest : List Oper} {ty : TypeId} {pos : String} {af : Array Edge} {f : FuncId} {args : List Operand} {at_ : Array TypeId} {xs : List HV} {pre : List (Nat × HObj)} (d : Nat)
    (hc : HFun P f clk xs pre (RetP I r kpf)) (hx : ovAll (pview (tget tm)) args xs) (hpre : ∀ p ∈ pre, hget hp p.1 = some p.2) (hlt : Nat.blt d n = true) (hk : nokey tm d = true)
    (h : ∀ x c', I x c' → HSeq C P ops rest ⟨n, (d, .v (r x)) :: tm, kpf x ++ hp, c'⟩ Q) :
    HSeq C P ops (⟨some d, .call ⟨.value (.func f), args.toArray, at_⟩, ty, pos, af, none⟩ :: rest) ⟨n, tm, hp, clk⟩ Q :=
  hf_call d hc hx hpre hlt hk (fun _ _ c' ⟨x, hI, he, hk⟩ => by injection he with he; subst he; subst hk; exact h x c' hI) (fun _ _ _ ⟨_, _, he, _⟩ => by cases he)
theorem hf_callRP {C : Ctx} {ops : Array Oper} {Q : Exit → Act → World → Prop} {n clk : Nat} {tm : List (Nat × TV)} {hp : List (Nat × HObj)} {rest : List Oper} {ty : TypeId} {pos : String} {af : Array Edge} {f : FuncId} {args : List Operand} {at_ : Array TypeId} {xs : List HV} {pre : List (Nat × HObj)} (d : Nat)
    (hc : HFun P f clk xs pre (RoP I r kpf J q kqf)) (hx : ovAll (pview (tget tm)) args xs) (hpre : ∀ p ∈ pre, hget hp p.1 = some p.2) (hlt : Nat.blt d n = true) (hk : nokey tm d = true)
    (hpan : ∀ y c', J y c' → HPan C Q ⟨n, tm, kqf y ++ hp, c'⟩ (q y))
    (h : ∀ x c', I x c' → HSeq C P ops rest ⟨n, (d, .v (r x)) :: tm, kpf x ++ hp, c'⟩ Q) :
    HSeq C P ops (⟨some d, .call ⟨.value (.func f), args.toArray, at_⟩, ty, pos, af, none⟩ :: rest) ⟨n, tm, hp, clk⟩ Q :=
  hf_call d hc hx hpre hlt hk (fun _ _ c' hP => by
    rcases hP with ⟨x, hI, he, hk⟩ | ⟨_, _, he, _⟩
    · injection he with he; subst he; subst hk; exact h x c' hI
    · cases he) (fun _ _ c' hP => by
    rcases hP with ⟨_, _, he, _⟩ | ⟨y, hJ, he, hk⟩
    · cases he
    · injection he with he; subst he; subst hk; exact hpan y c' hJ)
/-- How a function that returns says so. -/
def RetS (P : Program) (I : α → Nat → Prop) (r : α → HV) (kpf : α → List (Nat × HObj)) (Post : HEnd → List (Nat × HObj) → Nat → Prop) : Prop := ∀ x c', I x c' → Post (.ret (r x)) (kpf x) c'
theorem RetS.one : RetS P I r kpf (RetP I r kpf) := fun x _ h => ⟨x, h, rfl, rfl⟩
theorem RetS.two : RetS P I r kpf (RoP I r kpf J q kqf) := fun x _ h => .inl ⟨x, h, rfl, rfl⟩
theorem hf_retR0 {X : Clr} (ok : X.Ok) {pre : List (Nat × HObj)} (hX : X.pre = pre) (hS : RetS P I r kpf Post) {fn : Func} {s : HSt} (hres : fn.results = #[]) (sh : List (Nat × HObj)) (hd : dupfree (sh.map (·.1)) = true) (hsh : ∀ p ∈ sh, hget s.hp p.1 = some p.2)
    (x : α) (hI : I x s.clk) (hpk : (pre.all fun p => (hget (kpf x) p.1).isSome) = true) (hks : ((kpf x).all fun p => !(sh.map (·.1)).any (Nat.beq p.1)) = true) (hz : Kz (kpf x) sh (.tup 0 fun _ => default) (r x)) (hkp : Kept (kpf x) sh s.hp (kpf x)) : HQ X.ctx (bodyPost P fn (FunPost X Post)) .ret s :=
  hf_ret0 ok hres sh hd hsh (kpf x) (by rw [hX]; exact hpk) hks hz (hS x _ hI) hkp
theorem hf_retR1 {X : Clr} (ok : X.Ok) {pre : List (Nat × HObj)} (hX : X.pre = pre) (hS : RetS P I r kpf Post) {fn : Func} {s : HSt} {rv : ResultVar} {v : HV} (hres : fn.results = #[rv]) (hrv : RVal P s rv v) (sh : List (Nat × HObj)) (hd : dupfree (sh.map (·.1)) = true) (hsh : ∀ p ∈ sh, hget s.hp p.1 = some p.2)
    (x : α) (hI : I x s.clk) (hpk : (pre.all fun p => (hget (kpf x) p.1).isSome) = true) (hks : ((kpf x).all fun p => !(sh.map (·.1)).any (Nat.beq p.1)) = true) (hz : Kz (kpf x) sh v (r x)) (hkp : Kept (kpf x) sh s.hp (kpf x)) : HQ X.ctx (bodyPost P fn (FunPost X Post)) .ret s :=
  hf_ret1 ok hres hrv sh hd hsh (kpf x) (by rw [hX]; exact hpk) hks hz (hS x _ hI) hkp
theorem hf_retR2 {X : Clr} (ok : X.Ok) {pre : List (Nat × HObj)} (hX : X.pre = pre) (hS : RetS P I r kpf Post) {fn : Func} {s : HSt} {rv1 rv2 : ResultVar} {v1 v2 : HV} (hres : fn.results = #[rv1, rv2]) (hrv1 : RVal P s rv1 v1) (hrv2 : RVal P s rv2 v2) (sh : List (Nat × HObj)) (hd : dupfree (sh.map (·.1)) = true) (hsh : ∀ p ∈ sh, hget s.hp p.1 = some p.2)
    (x : α) (hI : I x s.clk) (hpk : (pre.all fun p => (hget (kpf x) p.1).isSome) = true) (hks : ((kpf x).all fun p => !(sh.map (·.1)).any (Nat.beq p.1)) = true) (hz : Kz (kpf x) sh (t2 v1 v2) (r x)) (hkp : Kept (kpf x) sh s.hp (kpf x)) : HQ X.ctx (bodyPost P fn (FunPost X Post)) .ret s :=
  hf_ret2 ok hres hrv1 hrv2 sh hd hsh (kpf x) (by rw [hX]; exact hpk) hks hz (hS x _ hI) hkp
theorem hf_retR3 {X : Clr} (ok : X.Ok) {pre : List (Nat × HObj)} (hX : X.pre = pre) (hS : RetS P I r kpf Post) {fn : Func} {s : HSt} {rv1 rv2 rv3 : ResultVar} {v1 v2 v3 : HV} (hres : fn.results = #[rv1, rv2, rv3]) (hrv1 : RVal P s rv1 v1) (hrv2 : RVal P s rv2 v2) (hrv3 : RVal P s rv3 v3) (sh : List (Nat × HObj)) (hd : dupfree (sh.map (·.1)) = true) (hsh : ∀ p ∈ sh, hget s.hp p.1 = some p.2)
    (x : α) (hI : I x s.clk) (hpk : (pre.all fun p => (hget (kpf x) p.1).isSome) = true) (hks : ((kpf x).all fun p => !(sh.map (·.1)).any (Nat.beq p.1)) = true) (hz : Kz (kpf x) sh (t3 v1 v2 v3) (r x)) (hkp : Kept (kpf x) sh s.hp (kpf x)) : HQ X.ctx (bodyPost P fn (FunPost X Post)) .ret s :=
  hf_ret3 ok hres hrv1 hrv2 hrv3 sh hd hsh (kpf x) (by rw [hX]; exact hpk) hks hz (hS x _ hI) hkp
theorem hf_panR {X : Clr} (ok : X.Ok) {pre : List (Nat × HObj)} (hX : X.pre = pre) {fn : Func} {s : HSt} {v : HV} (y : β) (hJ : J y s.clk) (hpk : (pre.all fun p => (hget (kqf y) p.1).isSome) = true) (hz : Kz (kqf y) [] v (q y)) (hkp : Kept (kqf y) [] s.hp (kqf y)) :
    HPan X.ctx (bodyPost P fn (FunPost X (RoP I r kpf J q kqf))) s v :=
  hf_pan ok (kqf y) (by rw [hX]; exact hpk) hkp hz (.inr ⟨y, hJ, rfl, rfl⟩)
theorem kz_t2 {kp sh : List (Nat × HObj)} {x1 x2 y1 y2 : HV} (h1 : Kz kp sh x1 y1) (h2 : Kz kp sh x2 y2) : Kz kp sh (t2 x1 x2) (t2 y1 y2) := .tup _ _ _ fun i hi => by
  match i, hi with
  | 0, _ => exact h1
  | 1, _ => exact h2
theorem kz_t3 {kp sh : List (Nat × HObj)} {x1 x2 x3 y1 y2 y3 : HV} (h1 : Kz kp sh x1 y1) (h2 : Kz kp sh x2 y2) (h3 : Kz kp sh x3 y3) : Kz kp sh (t3 x1 x2 x3) (t3 y1 y2 y3) := .tup _ _ _ fun i hi => by
  match i, hi with
  | 0, _ => exact h1
  | 1, _ => exact h2
  | 2, _ => exact h3
section
variable {kp sh : List (Nat × HObj)} {g ty fl : Nat} {f f' : Nat → Nat → HV}
theorem okz1 (h0 : Kz kp sh (f 0 0) (f' 0 0)) (hfn : fl ≤ 1 := by first | exact Nat.zero_le _ | exact Nat.le_refl _ | omega) : OKz kp sh ⟨g, 1, 1, ty, fl, f⟩ ⟨g, 1, 1, ty, fl, f'⟩ := .of (hfn := hfn) fun i j hi hj => by
  obtain rfl : i = 0 := by omega
  match j, hj with | 0, _ => exact h0
theorem okz2 (h0 : Kz kp sh (f 0 0) (f' 0 0)) (h1 : Kz kp sh (f 0 1) (f' 0 1)) (hfn : fl ≤ 1 := by first | exact Nat.zero_le _ | exact Nat.le_refl _ | omega) : OKz kp sh ⟨g, 1, 2, ty, fl, f⟩ ⟨g, 1, 2, ty, fl, f'⟩ := .of (hfn := hfn) fun i j hi hj => by
  obtain rfl : i = 0 := by omega
  match j, hj with | 0, _ => exact h0 | 1, _ => exact h1
theorem okz3 (h0 : Kz kp sh (f 0 0) (f' 0 0)) (h1 : Kz kp sh (f 0 1) (f' 0 1)) (h2 : Kz kp sh (f 0 2) (f' 0 2)) (hfn : fl ≤ 1 := by first | exact Nat.zero_le _ | exact Nat.le_refl _ | omega) : OKz kp sh ⟨g, 1, 3, ty, fl, f⟩ ⟨g, 1, 3, ty, fl, f'⟩ := .of (hfn := hfn) fun i j hi hj => by
  obtain rfl : i = 0 := by omega
  match j, hj with | 0, _ => exact h0 | 1, _ => exact h1 | 2, _ => exact h2
theorem okz4 (h0 : Kz kp sh (f 0 0) (f' 0 0)) (h1 : Kz kp sh (f 0 1) (f' 0 1)) (h2 : Kz kp sh (f 0 2) (f' 0 2)) (h3 : Kz kp sh (f 0 3) (f' 0 3)) (hfn : fl ≤ 1 := by first | exact Nat.zero_le _ | exact Nat.le_refl _ | omega) : OKz kp sh ⟨g, 1, 4, ty, fl, f⟩ ⟨g, 1, 4, ty, fl, f'⟩ := .of (hfn := hfn) fun i j hi hj => by
  obtain rfl : i = 0 := by omega
  match j, hj with | 0, _ => exact h0 | 1, _ => exact h1 | 2, _ => exact h2 | 3, _ => exact h3
end
end
end

/-! A call that is a function of what it is given, and of the objects that it is given. -/
def HFunD (P : Program) (f : FuncId) (args : List HV) (pre : List (Nat × HObj)) (r : HV) (post : List (Nat × HObj)) : Prop := ∀ c, HFun P f c args pre (RetP (fun (_ : Unit) _ => True) (fun _ => r) (fun _ => post))
/-- Each object of the second list bears a clock of the first. -/
def Clocks (pre post : List (Nat × HObj)) : Prop := ∀ id o, hget post id = some o → ∃ q ∈ pre, q.2.g = o.g
theorem clocks_nil {pre : List (Nat × HObj)} : Clocks pre [] := fun id o h => by cases h
theorem clocks_cons {pre post : List (Nat × HObj)} {id : Nat} {o o' : HObj} {id' : Nat} (hm : (id', o') ∈ pre) (hg : o'.g = o.g) (h : Clocks pre post) : Clocks pre ((id, o) :: post) := fun k x hx => by
  rw [hget_cons] at hx
  unfold hset at hx
  split at hx
  · injection hx with hx; subst hx; exact ⟨_, hm, hg⟩
  · exact h k x hx
theorem HFunD.sem {P : Program} {f : FuncId} {args : List HV} {pre post : List (Nat × HObj)} {r : HV} (hc : HFunD P f args pre r post) (hk : Clocks pre post) {K : Nat → Prop} {w0 w : World} {F0 : Addr → Prop} {E : Env} {h : Nat → Option HObj} (rr : R K w0 F0 E h w) (hpre : ∀ p ∈ pre, h p.1 = some p.2) (vs : List Value) (hr : RepAll w E vs args) (hb : ∃ c, ∀ g, E.G g → g < c) :
    Calls P f vs.toArray w fun e w' => ∃ v E', e = .returned v ∧ Ext w E w' E' ∧ R K w0 F0 E' (hupd h post) w' ∧ (∀ g, E'.G g → E.G g) ∧ Rep w' E' v r := by
  obtain ⟨c, hG⟩ := hb
  refine ((hc c).2 ⟨K, w0, F0, E, h, w, pre⟩ vs ⟨rr, fun id o ho => hpre (id, o) (hget_mem ho)⟩ rfl hr hG).mono ?_
  rintro e w' ⟨x, kp, c', E', ⟨_, _, rfl, rfl⟩, e', r', _, hGk, hv⟩
  cases e with
  | returned v =>
    refine ⟨v, E', rfl, e', r', fun g hg => ?_, hv⟩
    rcases hGk g hg with h1 | ⟨id, o, ho, rfl⟩
    · exact h1
    · obtain ⟨q, hq, hqg⟩ := hk id o ho
      rw [← hqg]
      obtain ⟨l, hl, a⟩ := rr.obj q.1 q.2 (hpre q hq)
      exact a.G
  | panicked ch => exact hv.elim
  | outgrown => exact hv.elim
end Go.Proofs.YtijpdbjcmnpobaaDoor
