/-
  How a function begins and ends; what a state may forget. Plain lemmas, no program in sight.
-/
import Derived.Test.YtijpdbjcmnpobaaDoorHk
import Derived.LoopN
namespace Go.Proofs.YtijpdbjcmnpobaaDoor
set_option linter.unusedSimpArgs false
set_option linter.unusedVariables false
open Go.RowKit

def Ctx.top (w : World) (F : Addr → Prop) : Ctx := ⟨fun _ => True, w, Env.just F, []⟩
def slots : Nat → List HV → List (Nat × TV)
  | _, [] => []
  | k, x :: r => (k, .v x) :: slots (k + 1) r
theorem tget_slots : ∀ (l : List HV) (k t : Nat) (x : TV), tget (slots k l) t = some x → ∃ i h, t = k + i ∧ l[i]? = some h ∧ x = .v h
  | [], _, _, _, h => by cases h
  | a :: l, k, t, x, h => by
    rw [slots, tget_cons] at h
    split at h
    · rename_i e
      injection h with h
      exact ⟨0, a, by omega, rfl, h.symm⟩
    · obtain ⟨i, y, h1, h2, h3⟩ := tget_slots l (k + 1) t x h
      exact ⟨i + 1, y, by omega, by simpa using h2, h3⟩
theorem RepAll.get {w : World} {E : Env} : ∀ {vs : List Value} {xs : List HV}, RepAll w E vs xs → vs.length = xs.length ∧ ∀ (i : Nat) (x : HV), xs[i]? = some x → ∃ v, vs[i]? = some v ∧ Rep w E v x
  | [], [], _ => ⟨rfl, fun i x h => by simp at h⟩
  | v :: vs, x :: xs, h => by
    obtain ⟨h1, h2⟩ := RepAll.get h.2
    refine ⟨by simp [h1], fun i y hy => ?_⟩
    cases i with
    | zero => simp at hy; subst hy; exact ⟨v, rfl, h.1⟩
    | succ i => exact h2 i y (by simpa using hy)
  | [], _ :: _, h => h.elim
  | _ :: _, [], h => h.elim
section
variable {P : Program}
theorem hpure_of {f : FuncId} {fn : Func} {c : Code} (hf : P.funcs[f]? = some fn) (hb : fn.body = some c) (hn : (fn.name == "runtime.NumGoroutine") = false) (args : List HV) (r : HV) (tm : List (Nat × TV)) (htm : slots 0 args = tm) (n : Nat) (hnt : fn.ntmps = n) (hlen : Nat.ble args.length n = true)
    (h : ∀ w F, HWp (Ctx.top w F) P c ⟨n, tm, [], 0⟩ (bodyPost P fn (PurePost w F r))) : HPure P f args r := by
  refine ⟨⟨fn, c, hf, hb, hn⟩, fun w F vs hF hr hw => calls_of_wp hf hb (h w F _ w ?_)⟩
  obtain ⟨hl, hg⟩ := hr.get
  have hlen : args.length ≤ n := by simpa using hlen
  refine ⟨Env.just F, Ext.refl _ _, ⟨rfl, rfl, rfl, Nat.le_refl _, fun _ _ _ => rfl, hF, fun a ha => .inl ha, fun _ _ => trivial, hw, (fun id o ho => by cases ho), (fun id id' o o' l l' b ho => by cases ho)⟩, fun g hg => hg.elim, ?_, rfl, fun t x hx => ?_⟩
  · simp [hl, hnt]; omega
  · rw [← htm] at hx
    obtain ⟨i, y, rfl, h2, rfl⟩ := tget_slots args 0 t x hx
    obtain ⟨v, hv, hrep⟩ := hg i y h2
    have hi : i < vs.length := by
      rcases Nat.lt_or_ge i vs.length with h | h
      · exact h
      · rw [List.getElem?_eq_none h] at hv; cases hv
    have : ({ tmps := vs.toArray ++ Array.replicate (fn.ntmps - vs.toArray.size) undef, defers := [] } : Act).tmps.getD (0 + i) undef = v := by
      rw [Nat.zero_add]
      simp only [Array.getD_eq_getD_getElem?]
      rw [Array.getElem?_append_left (by simpa using hi)]
      simp [hv]
    rw [this]
    exact hrep
theorem PurePost.of {w : World} {F : Addr → Prop} {E : Env} {s : HSt} {w' : World} (e0 : Ext w (Env.just F) w' E) (r : R (fun _ => True) w F E (hget s.hp) w') (sh : List (Nat × HObj)) (hd : dupfree (sh.map (·.1)) = true) (hsh : ∀ p ∈ sh, hget s.hp p.1 = some p.2) {x y : HV} {v : Value} (hz : Fz sh x y) (hv : Rep w' E v x) :
    PurePost w F y (.returned v) w' := by
  obtain ⟨E1, e1, hL, hG, hs1, r1⟩ := r.shareAll sh hd hsh
  refine ⟨⟨r.os, r.tape, r.output, r.size, fun k hk => r.keep k hk trivial⟩, v, E1.F, rfl, fun a ha => (e1.F a (e0.F a ha).1).1, fun a ha => ?_, r1.frz, hz.sound hs1 (hv.ext e1)⟩
  rcases r1.fnew a ha with h | h | h
  · exact .inl h
  · exact .inr h
  · exact absurd trivial h
/-- What a result variable holds. -/
def RVal (P : Program) (s : HSt) (rv : ResultVar) (x : HV) : Prop := ∀ (C : Ctx) (a : Act) (w : World) (E : Env), R C.K C.w0 C.E0.F E (hget s.hp) w → (∀ t x, tget s.tm t = some x → TVRep w E a (a.tmps.getD t undef) x) →
  ∃ v, (match rv with | .tmp t => pure (a.tmps.getD t undef) | .cell p t => do loadVar t (← asAddr (a.tmps.getD p undef)) : Sem Value).run P w = .ok v w ∧ Rep w E v x
theorem rval_tmp {s : HSt} {t : Nat} {x : HV} (h : tget s.tm t = some (.v x)) : RVal P s (.tmp t) x := fun C a w E r ht => ⟨_, rfl, ht t _ h⟩
theorem rval_cell {s : HSt} {t : Nat} {T : TypeId} {id sz : Nat} {gg : Nat} {b : Bool} {o : HObj} (h : tget s.tm t = some (.v (.pt id gg 0 0))) (ho : hget s.hp id = some o) (hg : o.g = gg) (hT : tyOf P T = some (b, sz)) (hs : b = false → sz = 1) (hn : Nat.blt 0 o.n = true) (hz : Nat.ble sz o.sz = true) : RVal P s (.cell t T) (ldv b sz (o.f 0) 0) := fun C a w E r ht => by
  subst hg
  have hn : 0 < o.n := by simpa [Nat.blt_eq] using hn
  have hz : sz ≤ o.sz := by simpa using hz
  have hv := ht t _ h
  obtain ⟨l, bl, cs, hl, hlg, hlsz, hA, hB, hcs, hnc, hm, vs, hvs⟩ := r.objAt ho hn
  generalize hq : a.tmps.getD t undef = u at hv
  cases hv with
  | pt b' k' _ _ _ _ hg hh =>
    obtain ⟨hb', rfl⟩ := hh l hl hlg
    rw [hA] at hb'; injection hb' with hb'; subst hb'
    obtain ⟨v, hrun, hrep⟩ := run_loadVar_cells hT hs w E bl (0 * l.sz + 0) (fun j => vs 0 (0 + j)) (fun j => o.f 0 (0 + j)) (fun j hj => by
      have hlt : 0 + j < o.sz := by omega
      rw [hB.cell, show 0 * l.sz + 0 + j = 0 * o.sz + (0 + j) from by simp]
      exact hvs 0 (0 + j) hn hlt)
    refine ⟨v, ?_, ?_⟩
    · simp only [hq, asAddr, Sem.run_bind, Sem.run_pure, Result.andThen_ok]
      exact hrun
    · cases b
      · simpa [ldv] using hrep
      · simpa [ldv] using hrep
theorem rvl_cell {s : HSt} {t : Nat} {T oty : TypeId} {id gg sz n osz fl : Nat} {b : Bool} {f : Nat → Nat → HV} (h : tget s.tm t = some (.v (.pt id gg 0 0))) (ho : hget s.hp id = some ⟨gg, n, osz, oty, fl, f⟩) (hT : tyOf P T = some (b, sz)) (hs : b = false → sz = 1) (hn : Nat.blt 0 n = true) (hz : Nat.ble sz osz = true) : RVal P s (.cell t T) (ldv b sz (f 0) 0) := rval_cell h ho rfl hT hs hn hz
theorem andThen_chain {α β γ : Type} {r : Result α} {f : α → World → Result β} {k : β → World → Result γ} {v : β} {w : World} (h : r.andThen f = .ok v w) : (r.andThen fun a w' => (f a w').andThen k) = k v w := by
  cases r with
  | ok a w' => simp only [Result.andThen] at h ⊢; rw [h]
  | halt x w' => simp [Result.andThen] at h
@[reducible] def t2 (x1 x2 : HV) : HV := .tup 2 (fun i => match i with | 0 => x1 | _ => x2)
@[reducible] def t3 (x1 x2 x3 : HV) : HV := .tup 3 (fun i => match i with | 0 => x1 | 1 => x2 | _ => x3)
theorem fz_t2 {sh : List (Nat × HObj)} {x1 x2 y1 y2 : HV} (h1 : Fz sh x1 y1) (h2 : Fz sh x2 y2) : Fz sh (t2 x1 x2) (t2 y1 y2) := .tup _ _ _ fun i hi => by
  match i, hi with
  | 0, _ => exact h1
  | 1, _ => exact h2
theorem fz_t3 {sh : List (Nat × HObj)} {x1 x2 x3 y1 y2 y3 : HV} (h1 : Fz sh x1 y1) (h2 : Fz sh x2 y2) (h3 : Fz sh x3 y3) : Fz sh (t3 x1 x2 x3) (t3 y1 y2 y3) := .tup _ _ _ fun i hi => by
  match i, hi with
  | 0, _ => exact h1
  | 1, _ => exact h2
  | 2, _ => exact h3
theorem hq_ret1 {w : World} {F : Addr → Prop} {fn : Func} {rv : ResultVar} {s : HSt} {x y : HV} (hres : fn.results = #[rv]) (hrv : RVal P s rv x) (sh : List (Nat × HObj)) (hd : dupfree (sh.map (·.1)) = true) (hsh : ∀ p ∈ sh, hget s.hp p.1 = some p.2) (hz : Fz sh x y) :
    HQ (Ctx.top w F) (bodyPost P fn (PurePost w F y)) .ret s := by
  intro a w' ⟨E, e0, r, hG, hsz, hdf, ht⟩
  obtain ⟨v, h1, h2⟩ := hrv (Ctx.top w F) a w' E r ht
  refine ⟨hdf, v, ?_, PurePost.of e0 r sh hd hsh hz h2⟩
  have : (results fn a.tmps).run P w' = .ok v w' := by
    unfold results
    rw [hres]
    cases rv with
    | tmp t => simp at h1 ⊢; exact h1
    | cell p t => simp [Sem.run_bind] at h1 ⊢; simp [h1]
  exact this
theorem hq_ret2 {w : World} {F : Addr → Prop} {fn : Func} {rv1 rv2 : ResultVar} {s : HSt} {x1 x2 y : HV} (hres : fn.results = #[rv1, rv2]) (hrv1 : RVal P s rv1 x1) (hrv2 : RVal P s rv2 x2) (sh : List (Nat × HObj)) (hd : dupfree (sh.map (·.1)) = true) (hsh : ∀ p ∈ sh, hget s.hp p.1 = some p.2)
    (hz : Fz sh (t2 x1 x2) y) : HQ (Ctx.top w F) (bodyPost P fn (PurePost w F y)) .ret s := by
  intro a w' ⟨E, e0, r, hG, hsz, hdf, ht⟩
  obtain ⟨v1, h1, g1⟩ := hrv1 (Ctx.top w F) a w' E r ht
  obtain ⟨v2, h2, g2⟩ := hrv2 (Ctx.top w F) a w' E r ht
  have hrep : Rep w' E (.tuple #[v1, v2]) (.tup 2 (fun i => match i with | 0 => x1 | _ => x2)) :=
    .tup _ 2 _ (fun i => match i with | 0 => v1 | _ => v2) rfl (fun i hi => by match i, hi with | 0, _ => rfl | 1, _ => rfl) (fun i hi => by match i, hi with | 0, _ => exact g1 | 1, _ => exact g2)
  refine ⟨hdf, _, ?_, PurePost.of e0 r sh hd hsh hz hrep⟩
  have : (results fn a.tmps).run P w' = .ok (.tuple #[v1, v2]) w' := by
    unfold results
    rw [hres]
    cases rv1 <;> cases rv2 <;> (simp [Sem.run_bind] at h1 h2 ⊢)
    all_goals first | done | (try (first | rw [andThen_chain h1] | skip); try (first | rw [andThen_chain h2] | skip); try simp [h1, h2])
  exact this
theorem hq_ret3 {w : World} {F : Addr → Prop} {fn : Func} {rv1 rv2 rv3 : ResultVar} {s : HSt} {x1 x2 x3 y : HV} (hres : fn.results = #[rv1, rv2, rv3]) (hrv1 : RVal P s rv1 x1) (hrv2 : RVal P s rv2 x2) (hrv3 : RVal P s rv3 x3) (sh : List (Nat × HObj)) (hd : dupfree (sh.map (·.1)) = true) (hsh : ∀ p ∈ sh, hget s.hp p.1 = some p.2)
    (hz : Fz sh (t3 x1 x2 x3) y) : HQ (Ctx.top w F) (bodyPost P fn (PurePost w F y)) .ret s := by
  intro a w' ⟨E, e0, r, hG, hsz, hdf, ht⟩
  obtain ⟨v1, h1, g1⟩ := hrv1 (Ctx.top w F) a w' E r ht
  obtain ⟨v2, h2, g2⟩ := hrv2 (Ctx.top w F) a w' E r ht
  obtain ⟨v3, h3, g3⟩ := hrv3 (Ctx.top w F) a w' E r ht
  have hrep : Rep w' E (.tuple #[v1, v2, v3]) (.tup 3 (fun i => match i with | 0 => x1 | 1 => x2 | _ => x3)) :=
    .tup _ 3 _ (fun i => match i with | 0 => v1 | 1 => v2 | _ => v3) rfl (fun i hi => by match i, hi with | 0, _ => rfl | 1, _ => rfl | 2, _ => rfl) (fun i hi => by match i, hi with | 0, _ => exact g1 | 1, _ => exact g2 | 2, _ => exact g3)
  refine ⟨hdf, _, ?_, PurePost.of e0 r sh hd hsh hz hrep⟩
  have : (results fn a.tmps).run P w' = .ok (.tuple #[v1, v2, v3]) w' := by
    unfold results
    rw [hres]
    cases rv1 <;> cases rv2 <;> cases rv3 <;> (simp [Sem.run_bind] at h1 h2 h3 ⊢)
    all_goals first | done | (try (first | rw [andThen_chain h1] | skip); try (first | rw [andThen_chain h2] | skip); try (first | rw [andThen_chain h3] | skip); try simp [h1, h2, h3])
  exact this
theorem pre0 {hp : List (Nat × HObj)} : ∀ p ∈ ([] : List (Nat × HObj)), hget hp p.1 = some p.2 := fun p h => by cases h
theorem pre1 {hp : List (Nat × HObj)} {id : Nat} {o : HObj} (h : hget hp id = some o) : ∀ p ∈ [(id, o)], hget hp p.1 = some p.2 := fun p hp => by
  rw [List.mem_singleton] at hp; subst hp; exact h
theorem preC {hp : List (Nat × HObj)} {id : Nat} {o : HObj} {r : List (Nat × HObj)} (h : hget hp id = some o) (hr : ∀ p ∈ r, hget hp p.1 = some p.2) : ∀ p ∈ (id, o) :: r, hget hp p.1 = some p.2 := fun p hp => by
  rcases List.mem_cons.1 hp with rfl | hp
  · exact h
  · exact hr p hp

/-! Forgetting. -/
def TmSub (tm : List (Nat × TV)) (tm' : List (Nat × TV)) : Prop := ∀ t x', tget tm' t = some x' → ∃ x y, x' = .v y ∧ tget tm t = some (.v x) ∧ Sb x y
theorem TmSub.nil {tm : List (Nat × TV)} : TmSub tm [] := fun t x h => by cases h
theorem TmSub.cons {tm r : List (Nat × TV)} {t : Nat} {x y : HV} (h : tget tm t = some (.v x)) (hs : Sb x y) (hr : TmSub tm r) : TmSub tm ((t, .v y) :: r) := fun t' x' h' => by
  rw [tget_cons] at h'
  split at h'
  · rename_i e; subst e; injection h' with h'; exact ⟨x, y, h'.symm, h, hs⟩
  · exact hr t' x' h'
def HpSub (hp hp' : List (Nat × HObj)) : Prop := ∀ id o', hget hp' id = some o' → ∃ o, hget hp id = some o ∧ OSub o o'
theorem HpSub.nil {hp : List (Nat × HObj)} : HpSub hp [] := fun t x h => by cases h
theorem HpSub.cons {hp r : List (Nat × HObj)} {id : Nat} {o o' : HObj} (h : hget hp id = some o) (hs : OSub o o') (hr : HpSub hp r) : HpSub hp ((id, o') :: r) := fun t' x' h' => by
  rw [hget_cons] at h'
  unfold hset at h'
  split at h'
  · rename_i e; subst e; injection h' with h'; subst h'; exact ⟨o, h, hs⟩
  · exact hr t' x' h'
theorem HpSub.refl (hp : List (Nat × HObj)) : HpSub hp hp := fun id o h => ⟨o, h, .refl o⟩
theorem hsub_of {C : Ctx} {s s' : HSt} (hn : s.n = s'.n) (hc : s.clk ≤ s'.clk) (ht : TmSub s.tm s'.tm) (hh : HpSub s.hp s'.hp) : HSub C s s' := by
  intro a w ⟨E, e0, r, hG, hsz, hdf, htm⟩
  refine ⟨E, e0, { r with obj := fun id o ho => ?_, inj := fun id id' o o' l l' b ho ho' hl hl' hb hb' => ?_ }, fun g hg => Nat.lt_of_lt_of_le (hG g hg) hc, hsz.trans hn, hdf, fun t x hx => ?_⟩
  · obtain ⟨o1, ho1, hs⟩ := hh id o ho
    obtain ⟨l, hl, a1⟩ := r.obj id o1 ho1
    exact ⟨l, hl, hs.at_ a1⟩
  · obtain ⟨o1, ho1, _⟩ := hh id o ho
    obtain ⟨o2, ho2, _⟩ := hh id' o' ho'
    exact r.inj id id' o1 o2 l l' b ho1 ho2 hl hl' hb hb'
  · obtain ⟨y, z, rfl, hy, hs⟩ := ht t x hx
    exact hs.sound (htm t _ hy)
theorem HSub.refl (C : Ctx) (s : HSt) : HSub C s s := fun _ _ h => h

/-- The loop, its clock apart. -/
theorem hw_loopc {C : Ctx} {P : Program} {Q : Exit → Act → World → Prop} {n : Nat} {tm0 : List (Nat × TV)} {hp0 : List (Nat × HObj)} {c0 : Nat} {α : Type} {body : Code} (st : α → Nat → HSt) (I : α → Prop) (m : α → Nat) (x0 : α) (h0 : I x0) (hs0 : HSub C ⟨n, tm0, hp0, c0⟩ (st x0 c0))
    (round : ∀ x c, I x → ∀ N : Act → World → Prop, (∀ y c' s', I y → m y < m x → HSub C s' (st y c') → HQ C (Exit.then N Q) .normal s') → HWp C P body (st x c) (Exit.then N Q)) : HWp C P (.loop body) ⟨n, tm0, hp0, c0⟩ Q :=
  hw_loop (α := α × Nat) (fun p => st p.1 p.2) (fun p => I p.1) (fun p => m p.1) (x0, c0) h0 hs0 (fun p hp N hN => round p.1 p.2 hp N (fun y c' s' h1 h2 h3 => hN (y, c') s' h1 h2 h3))

/-- A loop of few rounds, gone through one by one. -/
def HRounds (C : Ctx) (P : Program) (c : Code) (k : Nat) (s : HSt) (Q : Exit → Act → World → Prop) : Prop := ∀ a w, Sat C s a w → Code.rounds P c Q k a w
theorem hw_rounds {C : Ctx} {P : Program} {Q : Exit → Act → World → Prop} {s : HSt} {c : Code} (k : Nat) (h : HRounds C P c k s Q) : HWp C P (.loop c) s Q := fun a w hs => wp_loop_rounds k (h a w hs)
theorem hr_succ {C : Ctx} {P : Program} {Q : Exit → Act → World → Prop} {s : HSt} {c : Code} {k : Nat} (h : ∀ N : Act → World → Prop, (∀ s', HRounds C P c k s' Q → HQ C (Exit.then N Q) .normal s') → HWp C P c s (Exit.then N Q)) : HRounds C P c (k + 1) s Q :=
  fun a w hs => h _ (fun s' hr a w hs => hr a w hs) a w hs

/-! An empty row that nobody made yet. -/
section
variable {K : Nat → Prop} {w0 w w' : World} {F0 : Addr → Prop} {E E' : Env} {h h' : Nat → Option HObj}
theorem R.newNil (r : R K w0 F0 E h w) (id g sz : Nat) (ty : TypeId) (f : Nat → Nat → HV) (hg : ¬ E.G g) (hsz : 0 < sz) :
    Ext w E w (E.place id ⟨g, none, 0, sz⟩) ∧ R K w0 F0 (E.place id ⟨g, none, 0, sz⟩) (hset h id ⟨g, 0, sz, ty, 0, f⟩) w := by
  have e : Ext w E w (E.place id ⟨g, none, 0, sz⟩) := ⟨Nat.le_refl _, fun a ha => ⟨ha, rfl⟩, fun _ hg => .inl hg, fun k l hl hG => by
    by_cases hk : k = id
    · subst hk; rw [Env.place_L] at hl; injection hl with hl; subst hl; exact absurd hG hg
    · rwa [Env.place_Lne _ _ hk] at hl⟩
  refine ⟨e, r.os, r.tape, r.output, r.size, r.keep, r.frz, r.fnew, r.klib, r.lib, fun k o ho => ?_, fun k k' o o' l l' b ho ho' hl hl' hb1 hb2 => ?_⟩
  · by_cases hk : k = id
    · subst hk
      rw [hset_same] at ho; injection ho with ho; subst ho
      exact ⟨_, Env.place_L _ _ _, rfl, .inr rfl, rfl, hsz, .inl ⟨rfl, rfl, rfl, Nat.le_refl _⟩⟩
    · rw [hset_ne _ _ hk] at ho
      obtain ⟨l, hl, a⟩ := r.obj k o ho
      exact ⟨l, by rw [Env.place_Lne _ _ hk]; exact hl, a.ext e (fun _ _ => rfl) (fun _ _ _ hF => hF)⟩
  · by_cases hk : k = id
    · subst hk; rw [Env.place_L] at hl; injection hl with hl; subst hl; cases hb1
    · by_cases hk' : k' = id
      · subst hk'; rw [Env.place_L] at hl'; injection hl' with hl'; subst hl'; cases hb2
      · rw [hset_ne _ _ hk] at ho
        rw [hset_ne _ _ hk'] at ho'
        rw [Env.place_Lne _ _ hk] at hl
        rw [Env.place_Lne _ _ hk'] at hl'
        exact r.inj k k' o o' l l' b ho ho' hl hl' hb1 hb2
end
theorem hsub_own {C : Ctx} {s : HSt} (t id sz : Nat) (ty : TypeId) (f : Nat → Nat → HV) (ht : tget s.tm t = some (.v (.imm (.slice none 0 0)))) (hsz : 0 < sz) (hk : nokey s.tm t = true) :
    HSub C s ⟨s.n, (t, .v (.os id s.clk 0 0)) :: s.tm, (id, ⟨s.clk, 0, sz, ty, 0, f⟩) :: s.hp, s.clk + 1⟩ := by
  intro a w ⟨E, e0, r, hG, hsz', hdf, htm⟩
  have hg : ¬ E.G s.clk := fun h => absurd (hG _ h) (Nat.lt_irrefl _)
  obtain ⟨e, r'⟩ := r.newNil id s.clk sz ty f hg hsz
  refine ⟨_, e0.trans e, by simp only [hget_cons]; exact r', fun g hg => ?_, hsz', hdf.ext e, fun t' x hx => ?_⟩
  · rcases hg with hg | hg
    · exact Nat.lt_succ_of_lt (hG g hg)
    · rw [hg]; exact Nat.lt_succ_self _
  · simp only [tget_cons] at hx
    split at hx
    · rename_i e1; subst e1; injection hx with hx; subst hx
      have := Rep.imm_inv (htm t' _ ht)
      show Rep w _ (a.tmps.getD t' undef) _
      rw [this]
      refine .os none 0 0 id s.clk 0 (.inr rfl) (Nat.le_refl _) (Nat.zero_le _) (fun h => absurd h (Nat.lt_irrefl _)) (fun l hl _ _ => ?_)
      rw [Env.place_L] at hl; injection hl with hl; subst hl
      exact ⟨rfl, rfl⟩
    · exact (htm t' x hx).ext e
end

/-- What stood under guards is forgotten: the slots are told anew, and what they say is checked. -/
def TmEq (tm tm' : List (Nat × TV)) : Prop := ∀ t x, tget tm' t = some x → tget tm t = some x
theorem TmEq.nil {tm : List (Nat × TV)} : TmEq tm [] := fun t x h => by cases h
def dropUn : List (Nat × TV) → List (Nat × TV) → List (Nat × TV)
  | [], _ => []
  | (k, .v x) :: r, seen => (k, .v x) :: dropUn r seen
  | (_, .un _ _ _) :: r, seen => dropUn r seen
/-- Each slot is told once, or its first word is no guard's. -/
def unOnce : List (Nat × TV) → Bool
  | [] => true
  | (k, .un _ _ _) :: r => (match tget r k with | none => true | some _ => false) && unOnce r
  | (_, .v _) :: r => unOnce r
theorem dropUn_sub : ∀ {tm : List (Nat × TV)}, unOnce tm = true → ∀ t x, tget (dropUn tm []) t = some x → tget tm t = some x
  | [], _, t, x, h => h
  | (k, .v y) :: r, hu, t, x, h => by
    simp only [dropUn] at h
    rw [tget_cons] at h ⊢
    split
    · rename_i e; rw [if_pos e] at h; exact h
    · rename_i e; rw [if_neg e] at h; exact dropUn_sub (by simpa [unOnce] using hu) t x h
  | (k, .un j b y) :: r, hu, t, x, h => by
    simp only [dropUn] at h
    simp only [unOnce, Bool.and_eq_true] at hu
    have := dropUn_sub hu.2 t x h
    rw [tget_cons]
    split
    · rename_i e
      subst e
      have h1 := hu.1
      rw [this] at h1
      cases h1
    · exact this
theorem hseq_nilU {C : Ctx} {P : Program} {ops : Array Oper} {Q : Exit → Act → World → Prop} {n clk : Nat} {tm tm' : List (Nat × TV)} {hp : List (Nat × HObj)} (hu : unOnce tm = true) (ht : dropUn tm [] = tm') (h : HQ C Q .normal ⟨n, tm', hp, clk⟩) : HSeq C P ops [] ⟨n, tm, hp, clk⟩ Q :=
  hseq_nil fun a w ⟨E, e0, r, hG, hsz, hdf, htm⟩ => h a w ⟨E, e0, r, hG, hsz, hdf, fun t x hx => htm t x (dropUn_sub hu t x (by rw [ht]; exact hx))⟩
/-- An object gets another name (and a new clock). -/
theorem hsub_ren {C : Ctx} {n clk : Nat} {tm : List (Nat × TV)} {hp : List (Nat × HObj)} (t id id' : Nat) (hp' : List (Nat × HObj)) {g lo m on sz fl : Nat} {oty : TypeId} {f : Nat → Nat → HV} (ht : tget tm t = some (.v (.os id g lo m))) (ho : hget hp id = some ⟨g, on, sz, oty, fl, f⟩) (hk : nokey tm t = true)
    (hh : ∀ k o, hget hp' k = some o → k ≠ id ∧ k ≠ id' ∧ hget hp k = some o) {c' : Nat} (hc : clk + 1 = c') : HSub C ⟨n, tm, hp, clk⟩ ⟨n, (t, .v (.os id' clk lo m)) :: tm, (id', ⟨clk, on, sz, oty, fl, f⟩) :: hp', c'⟩ := by
  subst hc
  intro a w ⟨E, e0, r, hG, hsz, hdf, htm⟩
  have hg : ¬ E.G clk := fun h => absurd (hG _ h) (Nat.lt_irrefl _)
  obtain ⟨l, hl, at_⟩ := r.obj id _ ho
  have e : Ext w E w (E.place id' ⟨clk, l.A, l.cap, l.sz⟩) := ⟨Nat.le_refl _, fun a ha => ⟨ha, rfl⟩, fun _ hg => .inl hg, fun k l' hl' hG' => by
    by_cases hk : k = id'
    · subst hk; rw [Env.place_L] at hl'; injection hl' with hl'; subst hl'; exact absurd hG' hg
    · rwa [Env.place_Lne _ _ hk] at hl'⟩
  have oth : ∀ k o, hget hp' k = some o → ∃ l', (E.place id' ⟨clk, l.A, l.cap, l.sz⟩).L k = some l' ∧ E.L k = some l' ∧ hget hp k = some o ∧ k ≠ id ∧ k ≠ id' := by
    intro k o hko
    obtain ⟨h1, h2, h3⟩ := hh k o hko
    obtain ⟨l', hl', _⟩ := r.obj k o h3
    exact ⟨l', by rw [Env.place_Lne _ _ h2]; exact hl', hl', h3, h1, h2⟩
  refine ⟨E.place id' ⟨clk, l.A, l.cap, l.sz⟩, e0.trans e, ⟨r.os, r.tape, r.output, r.size, r.keep, r.frz, r.fnew, r.klib, r.lib, fun k o hko => ?_, fun k k' o o' l1 l2 b ho1 ho2 hl1 hl2 hb1 hb2 => ?_⟩, fun g' hg' => ?_, hsz, hdf.ext e, fun t' x hx => ?_⟩
  · simp only [hget_cons] at hko
    by_cases hk : k = id'
    · subst hk
      rw [hset_same] at hko; injection hko with hko; subst hko
      refine ⟨_, Env.place_L _ _ _, rfl, .inr rfl, at_.sz, at_.pos, ?_⟩
      rcases at_.at_ with h0 | ⟨b, cs, g1, g2, g3, g4, g5, g6, ⟨vs, g8⟩, g9⟩ | ⟨b, ob, g1, g2, h3, g4⟩
      rotate_right
      · exact .inr (.inr ⟨b, ob, g1, g2, by cases h3; exact .iter .., g4⟩)
      · exact .inl h0
      · exact .inr (.inl ⟨b, cs, g1, g2, g3, g4, g5, g6, ⟨vs, fun i j hi hj => ⟨(g8 i j hi hj).1, (g8 i j hi hj).2.1, (g8 i j hi hj).2.2.ext e⟩⟩, g9⟩)
    · rw [hset_ne _ _ hk] at hko
      obtain ⟨h1, h2, h3⟩ := hh k o hko
      obtain ⟨l', hl', a'⟩ := r.obj k o h3
      exact ⟨l', by rw [Env.place_Lne _ _ h2]; exact hl', a'.ext e (fun _ _ => rfl) (fun _ _ _ hF => hF)⟩
  · simp only [hget_cons] at ho1 ho2
    have key : ∀ k o l1, hset (hget hp') id' ⟨clk, on, sz, oty, fl, f⟩ k = some o → (E.place id' ⟨clk, l.A, l.cap, l.sz⟩).L k = some l1 → ∃ k2 o2 l2, hget hp k2 = some o2 ∧ E.L k2 = some l2 ∧ l2.A = l1.A ∧ ((k = id' ∧ k2 = id) ∨ (k ≠ id' ∧ k2 = k ∧ k ≠ id)) := by
      intro k o l1 hko hkl
      by_cases hk : k = id'
      · subst hk
        rw [Env.place_L] at hkl; injection hkl with hkl; subst hkl
        exact ⟨id, _, l, ho, hl, rfl, .inl ⟨rfl, rfl⟩⟩
      · rw [hset_ne _ _ hk] at hko
        rw [Env.place_Lne _ _ hk] at hkl
        obtain ⟨h1, h2, h3⟩ := hh k o hko
        exact ⟨k, o, l1, h3, hkl, rfl, .inr ⟨hk, rfl, h1⟩⟩
    obtain ⟨p1, q1, m1, a1, a2, a3, a4⟩ := key k o l1 ho1 hl1
    obtain ⟨p2, q2, m2, c1, c2, c3, c4⟩ := key k' o' l2 ho2 hl2
    have := r.inj p1 p2 q1 q2 m1 m2 b a1 c1 a2 c2 (a3.trans hb1) (c3.trans hb2)
    rcases a4 with ⟨e1, e2⟩ | ⟨e1, e2, e3⟩ <;> rcases c4 with ⟨f1, f2⟩ | ⟨f1, f2, f3⟩
    · rw [e1, f1]
    · exact absurd (by rw [← f2, ← this, e2]) f3
    · exact absurd (by rw [← e2, this, f2]) e3
    · rw [← e2, ← f2, this]
  · rcases hg' with hg' | hg'
    · exact Nat.lt_succ_of_lt (hG g' hg')
    · rw [hg']; exact Nat.lt_succ_self _
  · simp only [tget_cons] at hx
    split at hx
    · rename_i e1; subst e1; injection hx with hx; subst hx
      have hv := htm t' _ ht
      show Rep w _ (a.tmps.getD t' undef) _
      generalize a.tmps.getD t' undef = u at hv
      cases hv with
      | os A _ c _ _ _ hgg hcc hm hA h0 =>
        refine .os A m c id' clk lo (.inr rfl) hcc hm (fun hp => ?_) (fun l2 hl2 _ hlo => ?_)
        · obtain ⟨b, k, h1, h2⟩ := hA hp
          refine ⟨b, k, h1, fun l2 hl2 _ => ?_⟩
          rw [Env.place_L] at hl2; injection hl2 with hl2; subst hl2
          exact h2 l hl at_.g
        · rw [Env.place_L] at hl2; injection hl2 with hl2; subst hl2
          exact h0 l hl at_.g hlo
    · exact (htm t' x hx).ext e
theorem HSub.trans {C : Ctx} {s s' s'' : HSt} (h : HSub C s s') (k : HSub C s' s'') : HSub C s s'' := fun a w hs => k a w (h a w hs)
theorem hw_own {C : Ctx} {P : Program} {Q : Exit → Act → World → Prop} {n clk : Nat} {tm : List (Nat × TV)} {hp : List (Nat × HObj)} {cd : Code} (t id sz : Nat) (ty : TypeId) (f : Nat → Nat → HV) (ht : tget tm t = some (.v (.imm (.slice none 0 0)))) (hsz : 0 < sz) (hk : nokey tm t = true) {c' : Nat} (hc : clk + 1 = c')
    (h : HWp C P cd ⟨n, (t, .v (.os id clk 0 0)) :: tm, (id, ⟨clk, 0, sz, ty, 0, f⟩) :: hp, c'⟩ Q) : HWp C P cd ⟨n, tm, hp, clk⟩ Q := by
  subst hc
  exact (hsub_own (s := ⟨n, tm, hp, clk⟩) t id sz ty f ht hsz hk).wp h
/-! One operation a step, for the walks. -/
section
variable {C : Ctx} {P : Program} {ops : Array Oper} {Q : Exit → Act → World → Prop} {n clk : Nat} {tm : List (Nat × TV)} {hp : List (Nat × HObj)} {o : Oper} {rest : List Oper} {pre post : List (Nat × HObj)} {v : HV}
/-- Nothing made, no guard. -/
theorem hq_ (d : Nat) (hop : HOp P o (pview (tget tm)) clk pre v []) (hd : o.dst = some d) (hg : o.guard = none) (hpre : ∀ p ∈ pre, hget hp p.1 = some p.2) (hlt : Nat.blt d n = true) (hk : nokey tm d = true) (h : HSeq C P ops rest ⟨n, (d, .v v) :: tm, hp, clk⟩ Q) : HSeq C P ops (o :: rest) ⟨n, tm, hp, clk⟩ Q :=
  hseq_consq (s := ⟨n, tm, hp, clk⟩) d _ hd rfl (hstep_plain hg hop) hpre hlt hk h (fun j b x h => by cases h)
/-- Under a guard. -/
theorem hq_g (d gi j : Nat) (b c : Bool) (hop : c = b → HOp P o (gview (tget tm) j b) clk pre v []) (hd : o.dst = some d) (hg : o.guard = some (gi, b)) (hgi : (ops[gi]?).bind (·.dst) = some j) (hc : tget tm j = some (.v (.imm (.bool c)))) (hpre : ∀ p ∈ pre, hget hp p.1 = some p.2) (hlt : Nat.blt d n = true) (hk : nokey tm d = true) (hjd : Nat.beq j d = false)
    (h : HSeq C P ops rest ⟨n, (d, .un j b v) :: tm, hp, clk⟩ Q) : HSeq C P ops (o :: rest) ⟨n, tm, hp, clk⟩ Q :=
  hseq_consq (s := ⟨n, tm, hp, clk⟩) d _ hd rfl (hstep_guard gi j b c hg hgi (.inl hc) hop) hpre hlt hk h (fun j' b' x h => by injection h with h1 h2 h3; subst h1; rw [← Bool.not_eq_true, Nat.beq_eq] at hjd; exact hjd)
theorem hq_g2 (d gi j j2 : Nat) (b2 b c : Bool) (hop : c = b → HOp P o (gview (tget tm) j b) clk pre v []) (hd : o.dst = some d) (hg : o.guard = some (gi, b)) (hgi : (ops[gi]?).bind (·.dst) = some j) (hc : tget tm j = some (.un j2 b2 (.imm (.bool c)))) (hpre : ∀ p ∈ pre, hget hp p.1 = some p.2) (hlt : Nat.blt d n = true) (hk : nokey tm d = true) (hjd : Nat.beq j d = false)
    (h : HSeq C P ops rest ⟨n, (d, .un j b v) :: tm, hp, clk⟩ Q) : HSeq C P ops (o :: rest) ⟨n, tm, hp, clk⟩ Q :=
  hseq_consq (s := ⟨n, tm, hp, clk⟩) d _ hd rfl (hstep_guard gi j b c hg hgi (.inr ⟨j2, b2, hc⟩) hop) hpre hlt hk h (fun j' b' x h => by injection h with h1 h2 h3; subst h1; rw [← Bool.not_eq_true, Nat.beq_eq] at hjd; exact hjd)
/-- Something is made or written. -/
theorem hm_ (d : Nat) (hop : HOp P o (pview (tget tm)) clk pre v post) (hd : o.dst = some d) (hg : o.guard = none) (hpre : ∀ p ∈ pre, hget hp p.1 = some p.2) (hlt : Nat.blt d n = true) (hk : nokey tm d = true) {c' : Nat} (hc : clk + 1 = c') (h : HSeq C P ops rest ⟨n, (d, .v v) :: tm, post ++ hp, c'⟩ Q) : HSeq C P ops (o :: rest) ⟨n, tm, hp, clk⟩ Q := by
  subst hc; exact hseq_cons (s := ⟨n, tm, hp, clk⟩) d _ hd (hstep_plain hg hop) hpre hlt hk h (fun j b x h => by cases h)
/-- One object is made, or put anew. -/
theorem hm_1 (d : Nat) {id : Nat} {ob : HObj} (hop : HOp P o (pview (tget tm)) clk pre v [(id, ob)]) (hd : o.dst = some d) (hg : o.guard = none) (hpre : ∀ p ∈ pre, hget hp p.1 = some p.2) (hlt : Nat.blt d n = true) (hk : nokey tm d = true) {c' : Nat} (hc : clk + 1 = c') (h : HSeq C P ops rest ⟨n, (d, .v v) :: tm, (id, ob) :: hp, c'⟩ Q) : HSeq C P ops (o :: rest) ⟨n, tm, hp, clk⟩ Q := by
  subst hc; exact hm_ d hop hd hg hpre hlt hk rfl h
theorem hm_s1 {id : Nat} {ob : HObj} (hop : HOp P o (pview (tget tm)) clk pre v [(id, ob)]) (hd : o.dst = none) (hg : o.guard = none) (hpre : ∀ p ∈ pre, hget hp p.1 = some p.2) {c' : Nat} (hc : clk + 1 = c') (h : HSeq C P ops rest ⟨n, tm, (id, ob) :: hp, c'⟩ Q) : HSeq C P ops (o :: rest) ⟨n, tm, hp, clk⟩ Q := by
  subst hc; exact hseq_cons_ (s := ⟨n, tm, hp, clk⟩) _ hd (hstep_plain hg hop) hpre h
/-- A store. -/
theorem hm_s (hop : HOp P o (pview (tget tm)) clk pre v post) (hd : o.dst = none) (hg : o.guard = none) (hpre : ∀ p ∈ pre, hget hp p.1 = some p.2) (h : HSeq C P ops rest ⟨n, tm, post ++ hp, clk + 1⟩ Q) : HSeq C P ops (o :: rest) ⟨n, tm, hp, clk⟩ Q :=
  hseq_cons_ (s := ⟨n, tm, hp, clk⟩) _ hd (hstep_plain hg hop) hpre h
/-- A pick. -/
theorem hq_p (d : Nat) {need : List Nat} (hst : HStep P ops o (tget tm) clk ⟨.v v, need, [], []⟩) (hd : o.dst = some d) (hlt : Nat.blt d n = true) (hk : nokey tm d = true) (h : HSeq C P ops rest ⟨n, (d, .v v) :: tm, hp, clk⟩ Q) : HSeq C P ops (o :: rest) ⟨n, tm, hp, clk⟩ Q :=
  hseq_consq (s := ⟨n, tm, hp, clk⟩) d _ hd rfl hst pre0 hlt hk h (fun j b x h => by cases h)
end
end Go.Proofs.YtijpdbjcmnpobaaDoor
