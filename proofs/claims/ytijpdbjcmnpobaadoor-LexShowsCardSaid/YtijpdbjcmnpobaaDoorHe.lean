/-
  The engine: states, regions in their text's order, code. Plain lemmas, no program in sight.
-/
import Derived.Test.YtijpdbjcmnpobaaDoorHs
import Derived.Test.YtijpdbjcmnpobaaDoorReg
namespace Go.Proofs.YtijpdbjcmnpobaaDoor
set_option linter.unusedSimpArgs false
set_option linter.unusedVariables false
open Go.RowKit

/-- What a slot holds; 'un j b x': x if slot j says b, else nothing. -/
inductive TV where
  | v (x : HV)
  | un (j : Nat) (b : Bool) (x : HV)
def tget : List (Nat × TV) → Nat → Option TV
  | [], _ => none
  | (k, x) :: r, t => match Nat.beq k t with | true => some x | false => tget r t
def hget : List (Nat × HObj) → Nat → Option HObj
  | [], _ => none
  | (k, x) :: r, t => match Nat.beq k t with | true => some x | false => hget r t
def nokey : List (Nat × TV) → Nat → Bool
  | [], _ => true
  | (_, .un j _ _) :: r, d => !Nat.beq j d && nokey r d
  | (_, .v _) :: r, d => nokey r d
def hupd (h : Nat → Option HObj) (p : List (Nat × HObj)) : Nat → Option HObj := p.foldr (fun q h => hset h q.1 q.2) h
theorem hget_cons (k : Nat) (o : HObj) (r : List (Nat × HObj)) : hget ((k, o) :: r) = hset (hget r) k o := by
  funext t
  simp only [hget, hset]
  by_cases h : t = k
  · subst h; rw [show Nat.beq t t = true from Nat.beq_refl t]; simp
  · rw [show Nat.beq k t = false from by rw [← Bool.not_eq_true, Nat.beq_eq]; omega]; simp [h]
theorem hget_append (p r : List (Nat × HObj)) : hget (p ++ r) = hupd (hget r) p := by
  induction p with
  | nil => rfl
  | cons q p ih => obtain ⟨k, o⟩ := q; rw [List.cons_append, hget_cons, ih]; rfl
theorem tget_cons (k : Nat) (x : TV) (r : List (Nat × TV)) (t : Nat) : tget ((k, x) :: r) t = if t = k then some x else tget r t := by
  simp only [tget]
  by_cases h : t = k
  · subst h; rw [show Nat.beq t t = true from Nat.beq_refl t]; simp
  · rw [show Nat.beq k t = false from by rw [← Bool.not_eq_true, Nat.beq_eq]; omega]; simp [h]

def TVRep (w : World) (E : Env) (a : Act) (val : Value) : TV → Prop
  | .v x => Rep w E val x
  | .un j b x => (a.tmps.getD j undef = .bool b → Rep w E val x) ∧ (a.tmps.getD j undef ≠ .bool b → val = undef)
theorem TVRep.ext {w w' : World} {E E' : Env} {a : Act} {val : Value} {x : TV} (h : TVRep w E a val x) (e : Ext w E w' E') : TVRep w' E' a val x := by
  cases x with
  | v x => exact Rep.ext e h
  | un j b x => exact ⟨fun hj => Rep.ext e (h.1 hj), h.2⟩

structure HSt where
  n : Nat
  tm : List (Nat × TV)
  hp : List (Nat × HObj)
  clk : Nat

structure Ctx where
  K : Nat → Prop
  w0 : World
  E0 : Env
  ds : List HV
/-- The closures that wait for the function's end. -/
def DefOk (w : World) (E : Env) : List HV → List Deferred → Prop
  | [], l => l = []
  | x :: xs, l => ∃ fv cap r, l = ⟨.fn fv cap, #[]⟩ :: r ∧ Rep w E (.func fv #[] cap) x ∧ DefOk w E xs r
theorem DefOk.ext {w w' : World} {E E' : Env} : ∀ {ds : List HV} {l : List Deferred}, DefOk w E ds l → Ext w E w' E' → DefOk w' E' ds l
  | [], _, h, _ => h
  | _ :: _, _, ⟨fv, cap, r, h1, h2, h3⟩, e => ⟨fv, cap, r, h1, h2.ext e, h3.ext e⟩
/-- The state holds. -/
def Sat (C : Ctx) (s : HSt) (a : Act) (w : World) : Prop :=
  ∃ E, Ext C.w0 C.E0 w E ∧ R C.K C.w0 C.E0.F E (hget s.hp) w ∧ (∀ g, E.G g → g < s.clk) ∧ a.tmps.size = s.n ∧ DefOk w E C.ds a.defers ∧ ∀ t x, tget s.tm t = some x → TVRep w E a (a.tmps.getD t undef) x

def HQ (C : Ctx) (Q : Exit → Act → World → Prop) (e : Exit) (s : HSt) : Prop := ∀ a w, Sat C s a w → Q e a w
def HWp (C : Ctx) (P : Program) (c : Code) (s : HSt) (Q : Exit → Act → World → Prop) : Prop := ∀ a w, Sat C s a w → c.wp P Q a w
def HSeq (C : Ctx) (P : Program) (ops : Array Oper) (l : List Oper) (s : HSt) (Q : Exit → Act → World → Prop) : Prop := ∀ a w, Sat C s a w → wpSeq P ops Q l a w

/-- What an operation does: the value it leaves, the objects it looks at, those it puts anew; 'need': the slots it looks at. -/
structure HSpec where
  tv : TV
  need : List Nat
  pre : List (Nat × HObj)
  post : List (Nat × HObj)
def HStep (P : Program) (ops : Array Oper) (o : Oper) (tm : Nat → Option TV) (g : Nat) (s : HSpec) : Prop :=
  ∀ K w0 F0 E h a w Q (N : Act → World → Prop), R K w0 F0 E h w → (∀ t x, t ∈ s.need → tm t = some x → TVRep w E a (a.tmps.getD t undef) x) → ¬ E.G g → (∃ c, ∀ g', E.G g' → g' < c) → (∀ p ∈ s.pre, h p.1 = some p.2) →
    (∀ val w' E', Ext w E w' E' → R K w0 F0 E' (hupd h s.post) w' → (∀ g', E'.G g' → E.G g' ∨ (s.post ≠ [] ∧ g' = g)) → TVRep w' E' a val s.tv → N (a.put o.dst val) w') →
    if Region.wanted o (yielded ops a.tmps) = true then o.wp P a w N Q else N (a.put o.dst undef) w

section
variable {C : Ctx} {P : Program} {ops : Array Oper} {Q : Exit → Act → World → Prop} {s : HSt} {o : Oper} {rest : List Oper}
theorem getD_put_ne {a : Act} {d t : Nat} {v : Value} (h : t ≠ d) : (a.put (some d) v).tmps.getD t undef = a.tmps.getD t undef := by
  simp [Act.put, Array.getElem?_setIfInBounds, Ne.symm h]
theorem getD_put_same {a : Act} {d : Nat} {v : Value} (h : d < a.tmps.size) : (a.put (some d) v).tmps.getD d undef = v := by
  simp [Act.put, Array.getElem?_setIfInBounds, h]
theorem nokey_spec {tm : List (Nat × TV)} {d : Nat} (h : nokey tm d = true) : ∀ t j b x, tget tm t = some (.un j b x) → j ≠ d := by
  induction tm with
  | nil => intro t j b x h; cases h
  | cons q r ih =>
    obtain ⟨k, y⟩ := q
    intro t j b x ht
    rw [tget_cons] at ht
    cases y with
    | v y =>
      have h : nokey r d = true := h
      split at ht
      · injection ht with ht; cases ht
      · exact ih h t j b x ht
    | un j' b' y =>
      have h : (!Nat.beq j' d && nokey r d) = true := h
      rw [Bool.and_eq_true] at h
      split at ht
      · injection ht with ht
        injection ht with h1 h2 h3
        subst h1
        have := h.1
        rw [Bool.not_eq_true', ← Bool.not_eq_true, Nat.beq_eq] at this
        exact this
      · exact ih h.2 t j b x ht
theorem hseq_nil (h : HQ C Q .normal s) : HSeq C P ops [] s Q := fun a w hs => h a w hs
/-- One operation that leaves a value in slot d. -/
theorem hseq_cons (d : Nat) (sp : HSpec) (hd : o.dst = some d) (hst : HStep P ops o (tget s.tm) s.clk sp) (hpre : ∀ p ∈ sp.pre, hget s.hp p.1 = some p.2) (hlt : Nat.blt d s.n = true) (hk : nokey s.tm d = true)
    (h : HSeq C P ops rest ⟨s.n, (d, sp.tv) :: s.tm, sp.post ++ s.hp, s.clk + 1⟩ Q) (hs : ∀ j b x, sp.tv = .un j b x → j ≠ d) : HSeq C P ops (o :: rest) s Q := by
  intro a w ⟨E, e0, r, hG, hsz, hdf, ht⟩
  have hlt : d < s.n := by simpa [Nat.blt_eq] using hlt
  unfold wpSeq
  refine hst C.K C.w0 C.E0.F E (hget s.hp) a w Q _ r (fun t x _ hx => ht t x hx) (fun hg => absurd (hG _ hg) (by omega)) ⟨_, hG⟩ hpre (fun val w' E' e r' hG' hv => ?_)
  rw [hd]
  refine h _ w' ⟨E', e0.trans e, by simp only [hget_append]; exact r', fun g hg => ?_, by simp [Act.put, hsz], hdf.ext e, fun t x hx => ?_⟩
  · rcases hG' g hg with h1 | h1
    · exact Nat.lt_succ_of_lt (hG g h1)
    · rw [h1.2]; exact Nat.lt_succ_self _
  · simp only [tget_cons] at hx
    have same : ∀ (val : Value) (y : TV), (∀ j b z, y = .un j b z → j ≠ d) → TVRep w' E' a val y → TVRep w' E' (a.put (some d) val) val y := by
      intro u y hy h
      cases y with
      | v z => exact h
      | un j b z => simp only [TVRep, getD_put_ne (hy j b z rfl)]; exact h
    have same' : ∀ (u : Value) (y : TV), (∀ j b z, y = .un j b z → j ≠ d) → TVRep w' E' a u y → TVRep w' E' (a.put (some d) val) u y := by
      intro u y hy h
      cases y with
      | v z => exact h
      | un j b z => simp only [TVRep, getD_put_ne (hy j b z rfl)]; exact h
    split at hx
    · rename_i htd
      subst htd
      injection hx with hx
      subst hx
      rw [getD_put_same (by rw [hsz]; exact hlt)]
      exact same val _ hs hv
    · rename_i htd
      rw [getD_put_ne htd]
      exact same' _ _ (fun j b z hz => nokey_spec hk t j b z (by rw [hx, hz])) ((ht t x hx).ext e)
/-- The same, nothing made. -/
theorem hseq_consq (d : Nat) (sp : HSpec) (hd : o.dst = some d) (hpost : sp.post = []) (hst : HStep P ops o (tget s.tm) s.clk sp) (hpre : ∀ p ∈ sp.pre, hget s.hp p.1 = some p.2) (hlt : Nat.blt d s.n = true) (hk : nokey s.tm d = true)
    (h : HSeq C P ops rest ⟨s.n, (d, sp.tv) :: s.tm, s.hp, s.clk⟩ Q) (hs : ∀ j b x, sp.tv = .un j b x → j ≠ d) : HSeq C P ops (o :: rest) s Q := by
  intro a w ⟨E, e0, r, hG, hsz, hdf, ht⟩
  have hlt : d < s.n := by simpa [Nat.blt_eq] using hlt
  unfold wpSeq
  refine hst C.K C.w0 C.E0.F E (hget s.hp) a w Q _ r (fun t x _ hx => ht t x hx) (fun hg => absurd (hG _ hg) (by omega)) ⟨_, hG⟩ hpre (fun val w' E' e r' hG' hv => ?_)
  rw [hd]
  refine h _ w' ⟨E', e0.trans e, by rw [hpost] at r'; exact r', fun g hg => ?_, by simp [Act.put, hsz], hdf.ext e, fun t x hx => ?_⟩
  · rcases hG' g hg with h1 | h1
    · exact hG g h1
    · exact absurd hpost h1.1
  · simp only [tget_cons] at hx
    have same : ∀ (val : Value) (y : TV), (∀ j b z, y = .un j b z → j ≠ d) → TVRep w' E' a val y → TVRep w' E' (a.put (some d) val) val y := by
      intro u y hy h
      cases y with
      | v z => exact h
      | un j b z => simp only [TVRep, getD_put_ne (hy j b z rfl)]; exact h
    have same' : ∀ (u : Value) (y : TV), (∀ j b z, y = .un j b z → j ≠ d) → TVRep w' E' a u y → TVRep w' E' (a.put (some d) val) u y := by
      intro u y hy h
      cases y with
      | v z => exact h
      | un j b z => simp only [TVRep, getD_put_ne (hy j b z rfl)]; exact h
    split at hx
    · rename_i htd
      subst htd
      injection hx with hx
      subst hx
      rw [getD_put_same (by rw [hsz]; exact hlt)]
      exact same val _ hs hv
    · rename_i htd
      rw [getD_put_ne htd]
      exact same' _ _ (fun j b z hz => nokey_spec hk t j b z (by rw [hx, hz])) ((ht t x hx).ext e)
/-- One operation that leaves no value. -/
theorem hseq_cons_ (sp : HSpec) (hd : o.dst = none) (hst : HStep P ops o (tget s.tm) s.clk sp) (hpre : ∀ p ∈ sp.pre, hget s.hp p.1 = some p.2)
    (h : HSeq C P ops rest ⟨s.n, s.tm, sp.post ++ s.hp, s.clk + 1⟩ Q) : HSeq C P ops (o :: rest) s Q := by
  intro a w ⟨E, e0, r, hG, hsz, hdf, ht⟩
  unfold wpSeq
  refine hst C.K C.w0 C.E0.F E (hget s.hp) a w Q _ r (fun t x _ hx => ht t x hx) (fun hg => absurd (hG _ hg) (by omega)) ⟨_, hG⟩ hpre (fun val w' E' e r' hG' hv => ?_)
  rw [hd]
  refine h _ w' ⟨E', e0.trans e, by simp only [hget_append]; exact r', fun g hg => ?_, hsz, hdf.ext e, fun t x hx => (ht t x hx).ext e⟩
  rcases hG' g hg with h1 | h1
  · exact Nat.lt_succ_of_lt (hG g h1)
  · rw [h1.2]; exact Nat.lt_succ_self _
theorem HSeq.clk_ {c c' : Nat} {n : Nat} {tm : List (Nat × TV)} {hp : List (Nat × HObj)} {l : List Oper} (h : HSeq C P ops l ⟨n, tm, hp, c⟩ Q) (hc : c' ≤ c) : HSeq C P ops l ⟨n, tm, hp, c'⟩ Q :=
  fun a w ⟨E, e0, r, hG, rest⟩ => h a w ⟨E, e0, r, fun g hg => Nat.lt_of_lt_of_le (hG g hg) hc, rest⟩
theorem hw_region {id : Nat} {l : List Oper} (h : HSeq C P l.toArray l s Q) : HWp C P (.region id l.toArray false) s Q := fun a w hs => wp_region_seq (h a w hs)

/-! Code. -/
/-- The context may change on the way. -/
theorem hw_seqC {x y : Code} (h : ∀ N : Act → World → Prop, (∀ C' s', HWp C' P y s' Q → ∀ a w, Sat C' s' a w → N a w) → HWp C P x s (Exit.then N Q)) : HWp C P (.seq x y) s Q :=
  fun a w hs => wp_seq (h _ (fun C' s' hy a w hs => hy a w hs) a w hs)
theorem hw_seq {x y : Code} (h : ∀ N : Act → World → Prop, (∀ s', HWp C P y s' Q → ∀ a w, Sat C s' a w → N a w) → HWp C P x s (Exit.then N Q)) : HWp C P (.seq x y) s Q :=
  fun a w hs => wp_seq (h _ (fun s' hy a w hs => hy a w hs) a w hs)
theorem hw_skip (h : HQ C Q .normal s) : HWp C P .skip s Q := fun a w hs => wp_skip (h a w hs)
theorem hw_exit {id : Nat} (h : HQ C Q (.exit id) s) : HWp C P (.exit id) s Q := fun a w hs => wp_exit (h a w hs)
theorem hw_ret (h : HQ C Q .ret s) : HWp C P .ret s Q := fun a w hs => wp_ret (h a w hs)
theorem hw_block {id : Nat} {c : Code} (h : HWp C P c s (Exit.inBlock id Q)) : HWp C P (.block id c) s Q := fun a w hs => wp_block (h a w hs)
theorem hw_cond {t : Nat} {x y : Code} (b : Bool) (hb : tget s.tm t = some (.v (.imm (.bool b)))) (h1 : b = true → HWp C P x s Q) (h2 : b = false → HWp C P y s Q) : HWp C P (.cond (.tmp t) x y) s Q := by
  intro a w hs
  have hs' := hs
  obtain ⟨E, e0, r, hG, hsz, hdf, ht⟩ := hs'
  have hv := ht t _ hb
  have hv : a.eval (.tmp t) = .bool b := by
    show a.tmps.getD t undef = _
    generalize a.tmps.getD t undef = u at hv
    cases hv
    rfl
  exact wp_cond_split hv (fun hb => h1 hb a w hs) (fun hb => h2 hb a w hs)
theorem hw_cond_t {t : Nat} {x y : Code} (hb : tget s.tm t = some (.v (.imm (.bool true)))) (h : HWp C P x s Q) : HWp C P (.cond (.tmp t) x y) s Q := hw_cond true hb (fun _ => h) (fun h => by cases h)
theorem hw_cond_f {t : Nat} {x y : Code} (hb : tget s.tm t = some (.v (.imm (.bool false)))) (h : HWp C P y s Q) : HWp C P (.cond (.tmp t) x y) s Q := hw_cond false hb (fun h => by cases h) (fun _ => h)
theorem hq_then {N : Act → World → Prop} (h : ∀ a w, Sat C s a w → N a w) : HQ C (Exit.then N Q) .normal s := h
theorem hq_then_exit {N : Act → World → Prop} {id : Nat} (h : HQ C Q (.exit id) s) : HQ C (Exit.then N Q) (.exit id) s := h
theorem hq_then_ret {N : Act → World → Prop} (h : HQ C Q .ret s) : HQ C (Exit.then N Q) .ret s := h
theorem hq_block {id : Nat} (h : HQ C Q .normal s) : HQ C (Exit.inBlock id Q) .normal s := h
theorem hq_block_ret {id : Nat} (h : HQ C Q .ret s) : HQ C (Exit.inBlock id Q) .ret s := h
theorem hq_block_here {id : Nat} (h : HQ C Q .normal s) : HQ C (Exit.inBlock id Q) (.exit id) s := fun a w hs => by
  show if id = id then Q .normal a w else Q (.exit id) a w
  rw [if_pos rfl]; exact h a w hs
theorem hq_block_on {id id' : Nat} (hne : Nat.beq id' id = false) (h : HQ C Q (.exit id') s) : HQ C (Exit.inBlock id Q) (.exit id') s := fun a w hs => by
  show if id' = id then Q .normal a w else Q (.exit id') a w
  rw [if_neg (by rw [← Bool.not_eq_true, Nat.beq_eq] at hne; exact hne)]; exact h a w hs

/-- The second state follows from the first one. -/
def HSub (C : Ctx) (s s' : HSt) : Prop := ∀ a w, Sat C s a w → Sat C s' a w
theorem HSub.wp {s' : HSt} {c : Code} (hs : HSub C s s') (h : HWp C P c s' Q) : HWp C P c s Q := fun a w ha => h a w (hs a w ha)
theorem HSub.q {s' : HSt} {e : Exit} (hs : HSub C s s') (h : HQ C Q e s') : HQ C Q e s := fun a w ha => h a w (hs a w ha)
theorem hw_loop {α : Type} {body : Code} (st : α → HSt) (I : α → Prop) (m : α → Nat) (x0 : α) (h0 : I x0) (hs0 : HSub C s (st x0))
    (round : ∀ x, I x → ∀ N : Act → World → Prop, (∀ y s', I y → m y < m x → HSub C s' (st y) → ∀ a w, Sat C s' a w → N a w) → HWp C P body (st x) (Exit.then N Q)) : HWp C P (.loop body) s Q := by
  intro a w hs
  refine wp_loop_ghost (fun n a w => ∃ x, m x = n ∧ I x ∧ Sat C (st x) a w) (m x0) ⟨x0, rfl, h0, hs0 a w hs⟩ ?_
  rintro n a w ⟨x, rfl, hx, hs⟩
  exact round x hx _ (fun y s' hy hlt hsub a w hs => ⟨m y, hlt, y, rfl, hy, hsub a w hs⟩) a w hs
end
end Go.Proofs.YtijpdbjcmnpobaaDoor
