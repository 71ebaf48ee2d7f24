/-
  A region that draws its order: every order leaves the same. Plain lemmas, no program in sight.
-/
import Derived.Test.YtijpdbjcmnpobaaDoorHc
namespace Go.Proofs.YtijpdbjcmnpobaaDoor
set_option linter.unusedSimpArgs false
set_option linter.unusedVariables false
open Go.RowKit

def dstAt (l : List Oper) (k : Nat) : Option Nat := (l[k]?).bind (·.dst)
def spAt (ss : List HSpec) (k : Nat) : HSpec := ss.getD k ⟨.v default, [], [], []⟩
def trun (l : List Oper) (ss : List HSpec) (t0 : Nat → Option TV) (S : Nat → Bool) : Nat → Nat → Option TV
  | 0, t => t0 t
  | k + 1, t => if S k = true ∧ dstAt l k = some t then some (spAt ss k).tv else trun l ss t0 S k t
def hrun (ss : List HSpec) (h0 : Nat → Option HObj) (S : Nat → Bool) : Nat → Nat → Option HObj
  | 0 => h0
  | k + 1 => if S k = true then hupd (hrun ss h0 S k) (spAt ss k).post else hrun ss h0 S k
def dtm (o : Oper) (sp : HSpec) (tm : List (Nat × TV)) : List (Nat × TV) := match o.dst with | some d => (d, sp.tv) :: tm | none => tm
/-- The run in the text's order. -/
inductive VRun (P : Program) (ops : Array Oper) (n clk : Nat) (tm0 : List (Nat × TV)) (hp0 : List (Nat × HObj)) : List Oper → List HSpec → List (Nat × TV) → List (Nat × HObj) → Prop
  | nil : VRun P ops n clk tm0 hp0 [] [] tm0 hp0
  | snoc (l : List Oper) (ss : List HSpec) (tm : List (Nat × TV)) (hp : List (Nat × HObj)) (o : Oper) (sp : HSpec) (h : VRun P ops n clk tm0 hp0 l ss tm hp) (hst : HStep P ops o (tget tm) (clk + l.length) sp) (hpre : ∀ p ∈ sp.pre, hget hp p.1 = some p.2) (hd : ∀ d, o.dst = some d → d < n) :
      VRun P ops n clk tm0 hp0 (l ++ [o]) (ss ++ [sp]) (dtm o sp tm) (sp.post ++ hp)

section
variable {l : List Oper} {ss : List HSpec} {t0 : Nat → Option TV} {h0 : Nat → Option HObj}
theorem trun_congr {l' : List Oper} {ss' : List HSpec} {S S' : Nat → Bool} {t : Nat} : ∀ m, (∀ k, k < m → dstAt l k = dstAt l' k) → (∀ k, k < m → dstAt l k = some t → S k = S' k ∧ spAt ss k = spAt ss' k) → trun l ss t0 S m t = trun l' ss' t0 S' m t
  | 0, _, _ => rfl
  | m + 1, h1, h2 => by
    have ih := trun_congr (S := S) (S' := S') (t := t) (ss' := ss') m (fun k hk => h1 k (by omega)) (fun k hk => h2 k (by omega))
    simp only [trun]
    rw [← h1 m (by omega), ih]
    by_cases hd : dstAt l m = some t
    · obtain ⟨e1, e2⟩ := h2 m (by omega) hd
      rw [e1, e2]
    · simp [hd]
theorem hrun_congr {ss' : List HSpec} {S S' : Nat → Bool} {id : Nat} : ∀ m, (∀ k, k < m → (spAt ss k).post = (spAt ss' k).post) → (∀ k, k < m → id ∈ (spAt ss k).post.map (·.1) → S k = S' k) → hrun ss h0 S m id = hrun ss' h0 S' m id
  | 0, _, _ => rfl
  | m + 1, h1, h2 => by
    have ih := hrun_congr (S := S) (S' := S') (id := id) (ss' := ss') m (fun k hk => h1 k (by omega)) (fun k hk => h2 k (by omega))
    simp only [hrun]
    rw [← h1 m (by omega)]
    have miss : ∀ (h : Nat → Option HObj) (p : List (Nat × HObj)), id ∉ p.map (·.1) → hupd h p id = h id := by
      intro h p
      induction p with
      | nil => intro _; rfl
      | cons q p ih =>
        intro hn
        simp only [List.map_cons, List.mem_cons, not_or] at hn
        show hset (hupd h p) q.1 q.2 id = _
        rw [hset_ne _ _ hn.1]; exact ih hn.2
    have hit : ∀ (h h' : Nat → Option HObj) (p : List (Nat × HObj)), h id = h' id → hupd h p id = hupd h' p id := by
      intro h h' p he
      induction p with
      | nil => exact he
      | cons q p ih => show hset (hupd h p) q.1 q.2 id = hset (hupd h' p) q.1 q.2 id; unfold hset; split <;> first | rfl | exact ih
    by_cases hw : id ∈ (spAt ss m).post.map (·.1)
    · rw [← h2 m (by omega) hw]
      split
      · exact hit _ _ _ ih
      · exact ih
    · split <;> split <;> first | exact ih | (simp only [miss _ _ hw]; exact ih)
theorem hupd_miss {h : Nat → Option HObj} {id : Nat} : ∀ {p : List (Nat × HObj)}, id ∉ p.map (·.1) → hupd h p id = h id
  | [], _ => rfl
  | q :: p, hn => by
    simp only [List.map_cons, List.mem_cons, not_or] at hn
    show hset (hupd h p) q.1 q.2 id = _
    rw [hset_ne _ _ hn.1]; exact hupd_miss hn.2
theorem hupd_hit {h h' : Nat → Option HObj} {id : Nat} : ∀ {p : List (Nat × HObj)}, id ∈ p.map (·.1) → hupd h p id = hupd h' p id
  | [], hn => by simp at hn
  | q :: p, hn => by
    show hset (hupd h p) q.1 q.2 id = hset (hupd h' p) q.1 q.2 id
    unfold hset
    split
    · rfl
    · rename_i hne
      simp only [List.map_cons, List.mem_cons] at hn
      exact hupd_hit (hn.resolve_left hne)
theorem trun_cut {i : Nat} {t : Nat} : ∀ m, i ≤ m → trun l ss t0 (fun k => decide (k < i)) m t = trun l ss t0 (fun _ => true) i t := by
  intro m hm
  induction m with
  | zero => obtain rfl : i = 0 := (by omega); rfl
  | succ m ih =>
    by_cases hi : i = m + 1
    · subst hi; exact trun_congr _ (fun _ _ => rfl) (fun k hk _ => ⟨by simp [hk], rfl⟩)
    · rw [← ih (by omega)]
      simp only [trun]
      rw [if_neg]
      simp; omega
theorem hrun_cut {i : Nat} {id : Nat} : ∀ m, i ≤ m → hrun ss h0 (fun k => decide (k < i)) m id = hrun ss h0 (fun _ => true) i id := by
  intro m hm
  induction m with
  | zero => obtain rfl : i = 0 := (by omega); rfl
  | succ m ih =>
    by_cases hi : i = m + 1
    · subst hi; exact hrun_congr _ (fun _ _ => rfl) (fun k hk _ => by simp [hk])
    · rw [← ih (by omega)]
      simp only [hrun]
      rw [if_neg (by simp; omega)]
theorem trun_src {S : Nat → Bool} {t : Nat} {y : TV} : ∀ {m}, trun l ss t0 S m t = some y → t0 t = some y ∨ ∃ k, k < m ∧ S k = true ∧ y = (spAt ss k).tv
  | 0, h => .inl h
  | m + 1, h => by
    simp only [trun] at h
    split at h
    · rename_i hc; injection h with h; exact .inr ⟨m, by omega, hc.1, h.symm⟩
    · rcases trun_src h with h1 | ⟨k, h1, h2, h3⟩
      · exact .inl h1
      · exact .inr ⟨k, by omega, h2, h3⟩
end

structure Good (P : Program) (ops : Array Oper) (n clk : Nat) (tm0 : List (Nat × TV)) (hp0 : List (Nat × HObj)) (l : List Oper) (ss : List HSpec) (i : Nat) (o : Oper) : Prop where
  st : HStep P ops o (trun l ss (tget tm0) (fun _ => true) i) (clk + i) (spAt ss i)
  pre : ∀ p ∈ (spAt ss i).pre, hrun ss (hget hp0) (fun _ => true) i p.1 = some p.2
  dst : ∀ d, o.dst = some d → d < n
theorem VRun.good {P : Program} {ops : Array Oper} {n clk : Nat} {tm0 : List (Nat × TV)} {hp0 : List (Nat × HObj)} {l : List Oper} {ss : List HSpec} {tm : List (Nat × TV)} {hp : List (Nat × HObj)} (h : VRun P ops n clk tm0 hp0 l ss tm hp) :
    l.length = ss.length ∧ tget tm = trun l ss (tget tm0) (fun _ => true) l.length ∧ hget hp = hrun ss (hget hp0) (fun _ => true) l.length ∧ ∀ i o, l[i]? = some o → Good P ops n clk tm0 hp0 l ss i o := by
  induction h with
  | nil => exact ⟨rfl, rfl, rfl, fun i o h => by simp at h⟩
  | snoc l ss tm hp o sp h hst hpre hd ih =>
    obtain ⟨i1, i2, i3, i4⟩ := ih
    have d1 : ∀ k, k < l.length → dstAt l k = dstAt (l ++ [o]) k := fun k hk => by unfold dstAt; rw [List.getElem?_append_left hk]
    have s1 : ∀ k, k < l.length → spAt ss k = spAt (ss ++ [sp]) k := fun k hk => by unfold spAt; rw [List.getD_eq_getElem?_getD, List.getD_eq_getElem?_getD, List.getElem?_append_left (by omega)]
    have d2 : dstAt (l ++ [o]) l.length = o.dst := by unfold dstAt; rw [List.getElem?_append_right (Nat.le_refl _)]; simp
    have s2 : spAt (ss ++ [sp]) l.length = sp := by unfold spAt; rw [List.getD_eq_getElem?_getD, i1, List.getElem?_append_right (Nat.le_refl _)]; simp
    have t1 : ∀ k, k ≤ l.length → ∀ t, trun l ss (tget tm0) (fun _ => true) k t = trun (l ++ [o]) (ss ++ [sp]) (tget tm0) (fun _ => true) k t := fun k hk t => trun_congr k (fun j hj => d1 j (by omega)) (fun j hj _ => ⟨rfl, s1 j (by omega)⟩)
    have h1 : ∀ k, k ≤ l.length → ∀ t, hrun ss (hget hp0) (fun _ => true) k t = hrun (ss ++ [sp]) (hget hp0) (fun _ => true) k t := fun k hk t => hrun_congr k (fun j hj => by rw [s1 j (by omega)]) (fun j hj _ => rfl)
    refine ⟨by simp [i1], ?_, ?_, fun i o' ho' => ?_⟩
    · funext t
      rw [List.length_append, List.length_singleton]
      simp only [trun, d2, s2, ← t1 l.length (Nat.le_refl _), ← i2, dtm]
      cases hdst : o.dst with
      | none => simp
      | some d => simp only [tget_cons, Option.some.injEq]; by_cases htd : t = d <;> simp [htd, eq_comm]
    · funext t
      rw [List.length_append, List.length_singleton, hget_append]
      simp only [hrun, if_true, s2]
      have : hrun (ss ++ [sp]) (hget hp0) (fun _ => true) l.length = hget hp := by funext t; rw [← h1 l.length (Nat.le_refl _), ← i3]
      rw [this]
    · by_cases hi : i < l.length
      · rw [List.getElem?_append_left hi] at ho'
        have gd := i4 i o' ho'
        refine ⟨?_, ?_, gd.dst⟩
        · have e : trun (l ++ [o]) (ss ++ [sp]) (tget tm0) (fun _ => true) i = trun l ss (tget tm0) (fun _ => true) i := funext fun t => (t1 i (by omega) t).symm
          rw [← s1 i hi, e]; exact gd.st
        · rw [← s1 i hi]
          intro p hp
          rw [← h1 i (by omega)]; exact gd.pre p hp
      · have hil : i = l.length := by
          have : i < (l ++ [o]).length := by
            rcases Nat.lt_or_ge i (l ++ [o]).length with h | h
            · exact h
            · rw [List.getElem?_eq_none h] at ho'; cases ho'
          rw [List.length_append, List.length_singleton] at this
          omega
        subst hil
        rw [List.getElem?_append_right (Nat.le_refl _), Nat.sub_self] at ho'
        simp at ho'
        subst ho'
        refine ⟨?_, ?_, hd⟩
        · have e : trun (l ++ [o]) (ss ++ [sp]) (tget tm0) (fun _ => true) l.length = tget tm := by rw [i2]; exact funext fun t => (t1 l.length (Nat.le_refl _) t).symm
          rw [s2, e]; exact hst
        · rw [s2]
          intro p hp
          rw [← h1 l.length (Nat.le_refl _), ← i3]; exact hpre p hp

/-! What is checked. -/
def edg (o : Oper) : List Nat := (o.after.toList.filter fun e => Region.binds .any e).map (·.on)
def mkBef : List Oper → List (List Nat) → List (List Nat)
  | [], acc => acc
  | o :: r, acc => mkBef r (acc ++ [(edg o ++ (edg o).flatMap fun e => acc.getD e []).eraseDups])
def allV : List (Nat × TV) → Bool
  | [] => true
  | (_, .v _) :: r => allV r
  | (_, .un ..) :: _ => false
def ids (p : List (Nat × HObj)) : List Nat := p.map (·.1)
def meets (a b : List Nat) : Bool := a.any fun x => b.any (Nat.beq x)
def chk1 (i : Nat) (o : Oper) : Bool := (edg o).all fun e => Nat.blt e i
def chk2 (bef : List (List Nat)) (i : Nat) (o : Oper) : Bool := (bef.getD i []).all fun j => Nat.blt j i && (edg o).any fun e => Nat.beq e j || (bef.getD e []).any (Nat.beq j)
def chkA (l : List Oper) (i k : Nat) : Bool := match dstAt l i, dstAt l k with | some d, some d' => !Nat.beq d d' | _, _ => true
def chkB (l : List Oper) (ss : List HSpec) (bef : List (List Nat)) (i k : Nat) : Bool := match dstAt l k with
  | some t => !((spAt ss i).need.any (Nat.beq t)) || (Nat.blt k i && (bef.getD i []).any (Nat.beq k)) || (Nat.blt i k && (bef.getD k []).any (Nat.beq i))
  | none => true
def chkC (ss : List HSpec) (bef : List (List Nat)) (i k : Nat) : Bool :=
  !(meets (ids (spAt ss i).post) (ids (spAt ss k).pre ++ ids (spAt ss k).post) || meets (ids (spAt ss i).pre) (ids (spAt ss k).post)) || (bef.getD i []).any (Nat.beq k) || (bef.getD k []).any (Nat.beq i)
def chk3 (l : List Oper) (ss : List HSpec) (bef : List (List Nat)) (i : Nat) : Bool := (List.range l.length).all fun k => Nat.beq k i || (chkA l i k && chkB l ss bef i k && chkC ss bef i k)
def chk4 (l : List Oper) (ss : List HSpec) (i : Nat) : Bool := match dstAt l i with | some t => !((spAt ss i).need.any (Nat.beq t)) | none => true
def chk5 (l : List Oper) (ss : List HSpec) (bef : List (List Nat)) (i : Nat) : Bool := match (spAt ss i).tv with
  | .v _ => true
  | .un j _ _ => (List.range l.length).all fun k => match dstAt l k with | some t => !Nat.beq t j || (bef.getD i []).any (Nat.beq k) | none => true
def chkI (l : List Oper) (ss : List HSpec) (bef : List (List Nat)) (i : Nat) (o : Oper) : Bool := chk1 i o && chk2 bef i o && chk3 l ss bef i && chk4 l ss i && chk5 l ss bef i
def chkR (l : List Oper) (ss : List HSpec) (tm0 : List (Nat × TV)) : Bool :=
  allV tm0 && (List.range l.length).all fun i => match l[i]? with | some o => chkI l ss (mkBef l []) i o | none => false

structure Chk (l : List Oper) (ss : List HSpec) (bef : List (List Nat)) : Prop where
  edge : ∀ i o, l[i]? = some o → ∀ e ∈ edg o, e < i
  befo : ∀ i o, l[i]? = some o → ∀ j ∈ bef.getD i [], j < i ∧ ∃ e ∈ edg o, e = j ∨ j ∈ bef.getD e []
  dst : ∀ i k d, i < l.length → k < l.length → k ≠ i → dstAt l i = some d → dstAt l k ≠ some d
  need : ∀ i k t, i < l.length → k < l.length → t ∈ (spAt ss i).need → dstAt l k = some t → (k < i ∧ k ∈ bef.getD i []) ∨ (i < k ∧ i ∈ bef.getD k [])
  conf : ∀ i k id, i < l.length → k < l.length → k ≠ i → id ∈ ids (spAt ss k).post → (id ∈ ids (spAt ss i).pre ∨ id ∈ ids (spAt ss i).post) → k ∈ bef.getD i [] ∨ i ∈ bef.getD k []
  un : ∀ i j b x k, i < l.length → k < l.length → (spAt ss i).tv = .un j b x → dstAt l k = some j → k ∈ bef.getD i []
theorem any_beq {a : Nat} {l : List Nat} : l.any (Nat.beq a) = true ↔ a ∈ l := by
  rw [List.any_eq_true]
  constructor
  · rintro ⟨x, hx, he⟩; rw [Nat.beq_eq] at he; subst he; exact hx
  · intro h; exact ⟨a, h, Nat.beq_refl a⟩
theorem meets_iff {a b : List Nat} : meets a b = true ↔ ∃ x, x ∈ a ∧ x ∈ b := by
  unfold meets
  rw [List.any_eq_true]
  constructor
  · rintro ⟨x, hx, he⟩; exact ⟨x, hx, any_beq.1 he⟩
  · rintro ⟨x, hx, he⟩; exact ⟨x, hx, any_beq.2 he⟩
theorem chk_of {l : List Oper} {ss : List HSpec} {tm0 : List (Nat × TV)} (h : chkR l ss tm0 = true) : allV tm0 = true ∧ Chk l ss (mkBef l []) := by
  unfold chkR at h
  rw [Bool.and_eq_true] at h
  refine ⟨h.1, ?_⟩
  generalize mkBef l [] = bef at h
  have each : ∀ i o, l[i]? = some o → chkI l ss bef i o = true := by
    intro i o ho
    have hi : i < l.length := by
      rcases Nat.lt_or_ge i l.length with h | h
      · exact h
      · rw [List.getElem?_eq_none h] at ho; cases ho
    have := List.all_eq_true.1 h.2 i (List.mem_range.2 hi)
    rw [ho] at this; exact this
  have op_ : ∀ i, i < l.length → ∃ o, l[i]? = some o := fun i hi => ⟨l[i], List.getElem?_eq_getElem hi⟩
  have parts : ∀ i o, l[i]? = some o → chk1 i o = true ∧ chk2 bef i o = true ∧ chk3 l ss bef i = true ∧ chk4 l ss i = true ∧ chk5 l ss bef i = true := by
    intro i o ho
    have := each i o ho
    unfold chkI at this
    simp only [Bool.and_eq_true] at this
    exact ⟨this.1.1.1.1, this.1.1.1.2, this.1.1.2, this.1.2, this.2⟩
  have pair : ∀ i o k, l[i]? = some o → k < l.length → k ≠ i → (chkA l i k = true ∧ chkB l ss bef i k = true) ∧ chkC ss bef i k = true := by
    intro i o k ho hk hne
    have h3 := (parts i o ho).2.2.1
    unfold chk3 at h3
    have := List.all_eq_true.1 h3 k (List.mem_range.2 hk)
    rw [Bool.or_eq_true] at this
    have h1 := this.resolve_left (fun h => hne (by rwa [Nat.beq_eq] at h))
    simp only [Bool.and_eq_true] at h1
    exact h1
  refine ⟨fun i o ho e he => ?_, fun i o ho j hj => ?_, fun i k d hi hk hne hd hd' => ?_, fun i k t hi hk ht hd => ?_, fun i k id hi hk hne h1 h2 => ?_, fun i j b x k hi hk htv hd => ?_⟩
  · have h1 := (parts i o ho).1
    unfold chk1 at h1
    have := List.all_eq_true.1 h1 e he
    simpa [Nat.blt_eq] using this
  · have h1 := (parts i o ho).2.1
    unfold chk2 at h1
    have := List.all_eq_true.1 h1 j hj
    rw [Bool.and_eq_true, Nat.blt_eq, List.any_eq_true] at this
    obtain ⟨h1, e, he, h2⟩ := this
    rw [Bool.or_eq_true, Nat.beq_eq, any_beq] at h2
    exact ⟨h1, e, he, h2⟩
  · obtain ⟨o, ho⟩ := op_ i hi
    have := (pair i o k ho hk hne).1.1
    unfold chkA at this
    rw [hd, hd'] at this
    simp at this
  · obtain ⟨o, ho⟩ := op_ i hi
    by_cases hne : k = i
    · subst hne
      have := (parts k o ho).2.2.2.1
      unfold chk4 at this
      rw [hd] at this
      simp only [Bool.not_eq_true'] at this
      rw [← Bool.not_eq_true, any_beq] at this
      exact absurd ht this
    · have := (pair i o k ho hk hne).1.2
      unfold chkB at this
      rw [hd] at this
      simp only [Bool.or_eq_true, Bool.and_eq_true, Bool.not_eq_true', Nat.blt_eq, any_beq] at this
      rcases this with (h | h) | h
      · rw [← Bool.not_eq_true, any_beq] at h; exact absurd ht h
      · exact .inl h
      · exact .inr h
  · obtain ⟨o, ho⟩ := op_ i hi
    have := (pair i o k ho hk hne).2
    unfold chkC at this
    simp only [Bool.or_eq_true, Bool.not_eq_true', any_beq, Bool.or_eq_false_iff] at this
    rcases this with (h | h) | h
    · rcases h2 with h2 | h2
      · have := h.2
        rw [← Bool.not_eq_true, meets_iff] at this
        exact absurd ⟨id, h2, h1⟩ this
      · have := h.1
        rw [← Bool.not_eq_true, meets_iff] at this
        exact absurd ⟨id, h2, List.mem_append.2 (.inr h1)⟩ this
    · exact .inl h
    · exact .inr h
  · obtain ⟨o, ho⟩ := op_ i hi
    have := (parts i o ho).2.2.2.2
    unfold chk5 at this
    rw [htv] at this
    have := List.all_eq_true.1 this k (List.mem_range.2 hk)
    rw [hd] at this
    simp only [Bool.or_eq_true, Bool.not_eq_true', any_beq] at this
    exact this.resolve_left (fun h => by rw [← Bool.not_eq_true, Nat.beq_eq] at h; exact h rfl)
theorem allV_spec {tm : List (Nat × TV)} (h : allV tm = true) : ∀ t y, tget tm t = some y → ∃ x, y = .v x := by
  induction tm with
  | nil => intro t y h; cases h
  | cons q r ih =>
    obtain ⟨k, z⟩ := q
    cases z with
    | un j b x => cases h
    | v x =>
      intro t y ht
      rw [tget_cons] at ht
      split at ht
      · injection ht with ht; exact ⟨x, ht.symm⟩
      · exact ih h t y ht

section
variable {C : Ctx} {P : Program} {Q : Exit → Act → World → Prop} {n clk : Nat} {tm0 : List (Nat × TV)} {hp0 : List (Nat × HObj)} {l : List Oper} {ss : List HSpec}
/-- What holds once the operations S have come up. -/
structure Inv (C : Ctx) (n clk : Nat) (tm0 : List (Nat × TV)) (hp0 : List (Nat × HObj)) (l : List Oper) (ss : List HSpec) (listed : Array Bool) (a : Act) (w : World) : Prop where
  sz : listed.size = l.length
  closed : ∀ i o, l[i]? = some o → listed.getD i false = true → ∀ e ∈ edg o, listed.getD e false = true
  st : ∃ E, Ext C.w0 C.E0 w E ∧ R C.K C.w0 C.E0.F E (hrun ss (hget hp0) (fun k => listed.getD k false) l.length) w ∧ (∀ g, E.G g → g < clk ∨ ∃ k, k < l.length ∧ listed.getD k false = true ∧ g = clk + k) ∧ a.tmps.size = n ∧ DefOk w E C.ds a.defers ∧
    ∀ t x, trun l ss (tget tm0) (fun k => listed.getD k false) l.length t = some x → TVRep w E a (a.tmps.getD t undef) x
theorem bef_closed {bef : List (List Nat)} (hc : Chk l ss bef) {S : Nat → Bool} (hcl : ∀ i o, l[i]? = some o → S i = true → ∀ e ∈ edg o, S e = true) : ∀ i o, l[i]? = some o → (∀ e ∈ edg o, S e = true) → ∀ j ∈ bef.getD i [], S j = true := by
  intro i
  induction i using Nat.strongRecOn with
  | _ i ih =>
    intro o ho he j hj
    obtain ⟨_, e, hee, h2⟩ := hc.befo i o ho j hj
    rcases h2 with rfl | h2
    · exact he _ hee
    · have hlt := hc.edge i o ho e hee
      have hi : i < l.length := by
        rcases Nat.lt_or_ge i l.length with h | h
        · exact h
        · rw [List.getElem?_eq_none h] at ho; cases ho
      have hle : l[e]? = some l[e] := List.getElem?_eq_getElem (by omega)
      exact ih e hlt _ hle (hcl e _ hle (he e hee)) j h2
theorem edg_ready {listed : Array Bool} {i : Nat} {o : Oper} (hr : i ∈ Region.ready .any l.toArray listed) (ho : l[i]? = some o) (hsz : listed.size = l.length) : listed.getD i false = false ∧ i < l.length ∧ ∀ e ∈ edg o, listed.getD e false = true := by
  obtain ⟨h1, o', ho', h2⟩ := mem_ready.1 hr
  have hi : i < l.length := by
    rcases Nat.lt_or_ge i l.length with h | h
    · exact h
    · rw [List.getElem?_eq_none h] at ho; cases ho
  have : o' = o := by
    have e : l.toArray[i]? = l[i]? := by simp
    rw [e, ho] at ho'; injection ho' with ho'; exact ho'.symm
  subst this
  refine ⟨?_, hi, fun e he => ?_⟩
  · have hl : i < listed.size := by omega
    simpa [hl] using h1
  · obtain ⟨x, hx, rfl⟩ := List.mem_map.1 he
    obtain ⟨hx1, hx2⟩ := List.mem_filter.1 hx
    exact h2 x (by simpa using hx1) (by simpa using hx2)
theorem getD_set (listed : Array Bool) (i k : Nat) (hi : i < listed.size) : (listed.setIfInBounds i true).getD k false = if k = i then true else listed.getD k false := by
  by_cases hk : k = i
  · subst hk; simp [hi]
  · simp [hk, Array.getElem?_setIfInBounds, Ne.symm hk]
/-- What an operation that is ready finds. -/
theorem Inv.look {bef : List (List Nat)} (hc : Chk l ss bef) {listed : Array Bool} {a : Act} {w : World} (hI : Inv C n clk tm0 hp0 l ss listed a w) {i : Nat} (hr : i ∈ Region.ready .any l.toArray listed) {o : Oper} (ho : l[i]? = some o) (hpre0 : ∀ p ∈ (spAt ss i).pre, hrun ss (hget hp0) (fun _ => true) i p.1 = some p.2) :
    ∃ E, Ext C.w0 C.E0 w E ∧ R C.K C.w0 C.E0.F E (hrun ss (hget hp0) (fun k => listed.getD k false) l.length) w ∧ (∀ g, E.G g → g < clk ∨ ∃ k, k < l.length ∧ listed.getD k false = true ∧ g = clk + k) ∧ a.tmps.size = n ∧ DefOk w E C.ds a.defers ∧
    (∀ t x, trun l ss (tget tm0) (fun k => listed.getD k false) l.length t = some x → TVRep w E a (a.tmps.getD t undef) x) ∧
    (∀ t x, t ∈ (spAt ss i).need → trun l ss (tget tm0) (fun _ => true) i t = some x → TVRep w E a (a.tmps.getD t undef) x) ∧ ∀ p ∈ (spAt ss i).pre, hrun ss (hget hp0) (fun k => listed.getD k false) l.length p.1 = some p.2 := by
  obtain ⟨hun, hi, hedg⟩ := edg_ready hr ho hI.sz
  obtain ⟨E, e0, r, hG, hsz, hdf, ht⟩ := hI.st
  have hilt : i < listed.size := by rw [hI.sz]; exact hi
  have hbef : ∀ j ∈ bef.getD i [], listed.getD j false = true := bef_closed hc (S := fun k => listed.getD k false) hI.closed i o ho hedg
  have hnot : ∀ k, k < l.length → i ∈ bef.getD k [] → listed.getD k false = false := by
    intro k hk hik
    rw [← Bool.not_eq_true]
    intro hkl
    have hko : l[k]? = some l[k] := List.getElem?_eq_getElem hk
    have := bef_closed hc (S := fun k => listed.getD k false) hI.closed k _ hko (hI.closed k _ hko hkl) i hik
    rw [hun] at this; cases this
  have hbl : ∀ j ∈ bef.getD i [], j < i := fun j hj => (hc.befo i o ho j hj).1
  have htm : ∀ t x, t ∈ (spAt ss i).need → trun l ss (tget tm0) (fun _ => true) i t = some x → trun l ss (tget tm0) (fun k => listed.getD k false) l.length t = some x := by
    intro t x htn hx
    rw [← trun_cut l.length (by omega)] at hx
    rw [← hx]
    refine trun_congr _ (fun _ _ => rfl) (fun k hk hd => ⟨?_, rfl⟩)
    rcases hc.need i k t hi hk htn hd with ⟨h1, h2⟩ | ⟨h1, h2⟩
    · rw [hbef k h2]; simp [h1]
    · rw [hnot k hk h2]; simp; omega
  have wr : ∀ id, (id ∈ ids (spAt ss i).pre ∨ id ∈ ids (spAt ss i).post) → ∀ k, k < l.length → k ≠ i → id ∈ (spAt ss k).post.map (·.1) → listed.getD k false = decide (k < i) := by
    intro id hid k hk hne hw
    rcases hc.conf i k id hi hk hne hw hid with h | h
    · rw [hbef k h]; simp [hbl k h]
    · rw [hnot k hk h]
      have hko : l[k]? = some l[k] := List.getElem?_eq_getElem hk
      have := (hc.befo k _ hko i h).1
      simp; omega
  have hpre : ∀ p ∈ (spAt ss i).pre, hrun ss (hget hp0) (fun k => listed.getD k false) l.length p.1 = some p.2 := by
    intro p hp
    rw [← hpre0 p hp, ← hrun_cut l.length (by omega)]
    refine hrun_congr _ (fun _ _ => rfl) (fun k hk hw => ?_)
    by_cases hne : k = i
    · subst hne; rw [hun]; simp
    · exact wr p.1 (.inl (List.mem_map.2 ⟨p, hp, rfl⟩)) k hk hne hw
  exact ⟨E, e0, r, hG, hsz, hdf, ht, fun t x htn hx => ht t x (htm t x htn hx), hpre⟩
theorem Inv.step {bef : List (List Nat)} (hc : Chk l ss bef) (hV : allV tm0 = true) {i : Nat} (hg : ∀ o, l[i]? = some o → Good P l.toArray n clk tm0 hp0 l ss i o) {listed : Array Bool} {a : Act} {w : World} (hI : Inv C n clk tm0 hp0 l ss listed a w) (hr : i ∈ Region.ready .any l.toArray listed) {N : Act → World → Prop}
    (hN : ∀ a' w', Inv C n clk tm0 hp0 l ss (listed.setIfInBounds i true) a' w' → N a' w') : wpOp P l.toArray Q i N a w := by
  have hm := mem_ready.1 hr
  obtain ⟨_, o, ho', _⟩ := hm
  have ho : l[i]? = some o := by rw [← ho']; simp
  obtain ⟨hun, hi, hedg⟩ := edg_ready hr ho hI.sz
  have gd := hg o ho
  obtain ⟨E, e0, r, hG, hsz, hdf, ht⟩ := hI.st
  have hilt : i < listed.size := by rw [hI.sz]; exact hi
  have hbef : ∀ j ∈ bef.getD i [], listed.getD j false = true := bef_closed hc (S := fun k => listed.getD k false) hI.closed i o ho hedg
  have hnot : ∀ k, k < l.length → i ∈ bef.getD k [] → listed.getD k false = false := by
    intro k hk hik
    rw [← Bool.not_eq_true]
    intro hkl
    have hko : l[k]? = some l[k] := List.getElem?_eq_getElem hk
    have := bef_closed hc (S := fun k => listed.getD k false) hI.closed k _ hko (hI.closed k _ hko hkl) i hik
    rw [hun] at this; cases this
  have hbl : ∀ j ∈ bef.getD i [], j < i := fun j hj => (hc.befo i o ho j hj).1
  -- what it looks at is as in the text's order
  have htm : ∀ t x, t ∈ (spAt ss i).need → trun l ss (tget tm0) (fun _ => true) i t = some x → trun l ss (tget tm0) (fun k => listed.getD k false) l.length t = some x := by
    intro t x htn hx
    rw [← trun_cut l.length (by omega)] at hx
    rw [← hx]
    refine trun_congr _ (fun _ _ => rfl) (fun k hk hd => ⟨?_, rfl⟩)
    rcases hc.need i k t hi hk htn hd with ⟨h1, h2⟩ | ⟨h1, h2⟩
    · rw [hbef k h2]; simp [h1]
    · rw [hnot k hk h2]; simp; omega
  have wr : ∀ id, (id ∈ ids (spAt ss i).pre ∨ id ∈ ids (spAt ss i).post) → ∀ k, k < l.length → k ≠ i → id ∈ (spAt ss k).post.map (·.1) → listed.getD k false = decide (k < i) := by
    intro id hid k hk hne hw
    rcases hc.conf i k id hi hk hne hw hid with h | h
    · rw [hbef k h]; simp [hbl k h]
    · rw [hnot k hk h]
      have hko : l[k]? = some l[k] := List.getElem?_eq_getElem hk
      have := (hc.befo k _ hko i h).1
      simp; omega
  have hpre : ∀ p ∈ (spAt ss i).pre, hrun ss (hget hp0) (fun k => listed.getD k false) l.length p.1 = some p.2 := by
    intro p hp
    rw [← gd.pre p hp, ← hrun_cut l.length (by omega)]
    refine hrun_congr _ (fun _ _ => rfl) (fun k hk hw => ?_)
    by_cases hne : k = i
    · subst hne; rw [hun]; simp
    · exact wr p.1 (.inl (List.mem_map.2 ⟨p, hp, rfl⟩)) k hk hne hw
  have hgf : ¬ E.G (clk + i) := by
    intro hgg
    rcases hG _ hgg with h | ⟨k, _, h2, h3⟩
    · omega
    · have : k = i := by omega
      subst this; rw [hun] at h2; cases h2
  unfold wpOp
  have hoa : l.toArray[i]? = some o := by rw [← ho]; simp
  simp only [hoa]
  have key := gd.st C.K C.w0 C.E0.F E _ a w Q N r (fun t x htn hx => ht t x (htm t x htn hx)) hgf ⟨clk + l.length, fun g hg => by rcases hG g hg with h | ⟨k, h1, _, h3⟩ <;> omega⟩ hpre (fun val w' E' e' r' hG' hv => hN _ _ ?_)
  · split
    · rename_i hw; rw [if_pos hw] at key; exact .inl key
    · rename_i hw; rw [if_neg hw] at key; exact key
  · refine ⟨by simp [hI.sz], fun k o' hk' hkl e he => ?_, E', e0.trans e', ?_, fun g hg' => ?_, ?_, ?_, ?_⟩
    · rw [getD_set _ _ _ hilt] at hkl ⊢
      split
      · rfl
      · split at hkl
        · rename_i hki; subst hki
          rw [ho] at hk'; injection hk' with hk'; subst hk'
          exact hedg e he
        · exact hI.closed k o' hk' hkl e he
    · have : hrun ss (hget hp0) (fun k => (listed.setIfInBounds i true).getD k false) l.length = hupd (hrun ss (hget hp0) (fun k => listed.getD k false) l.length) (spAt ss i).post := by
        funext id
        by_cases hid : id ∈ (spAt ss i).post.map (·.1)
        · rw [hupd_hit (h' := hrun ss (hget hp0) (fun _ => true) i) hid]
          have e1 : hupd (hrun ss (hget hp0) (fun _ => true) i) (spAt ss i).post = hrun ss (hget hp0) (fun _ => true) (i + 1) := by simp only [hrun, if_true]
          rw [e1, ← hrun_cut (i := i + 1) l.length (by omega)]
          refine hrun_congr _ (fun _ _ => rfl) (fun k hk hw => ?_)
          rw [getD_set _ _ _ hilt]
          by_cases hne : k = i
          · subst hne; simp
          · rw [if_neg hne, wr id (.inr hid) k hk hne hw]
            have : (k < i) ↔ (k < i + 1) := by omega
            simp [this]
        · rw [hupd_miss hid]
          refine hrun_congr _ (fun _ _ => rfl) (fun k hk hw => ?_)
          rw [getD_set _ _ _ hilt, if_neg (fun hki => hid (by subst hki; exact hw))]
      rw [this]; exact r'
    · rcases hG' g hg' with h | ⟨_, h⟩
      · rcases hG g h with h | ⟨k, h1, h2, h3⟩
        · exact .inl h
        · exact .inr ⟨k, h1, by rw [getD_set _ _ _ hilt]; split <;> first | rfl | exact h2, h3⟩
      · exact .inr ⟨i, hi, by rw [getD_set _ _ _ hilt, if_pos rfl], h⟩
    · cases hd : o.dst with
      | none => simpa [Act.put] using hsz
      | some d => simpa [Act.put] using hsz
    · cases hd : o.dst <;> exact hdf.ext e'
    · intro t x hx
      have hdi : dstAt l i = o.dst := by unfold dstAt; rw [ho]; rfl
      have keep : ∀ (u : Value) (y : TV), (∀ d j b z, o.dst = some d → y = .un j b z → j ≠ d) → TVRep w' E' a u y → TVRep w' E' (a.put o.dst val) u y := by
        intro u y hy h
        cases hd : o.dst with
        | none => exact h
        | some d =>
          cases y with
          | v z => exact h
          | un j b z => simp only [TVRep, getD_put_ne (hy d j b z hd rfl)]; exact h
      by_cases hti : o.dst = some t
      · have hx1 : trun l ss (tget tm0) (fun k => (listed.setIfInBounds i true).getD k false) l.length t = some (spAt ss i).tv := by
          have : ∀ m, i < m → m ≤ l.length → trun l ss (tget tm0) (fun k => (listed.setIfInBounds i true).getD k false) m t = some (spAt ss i).tv := by
            intro m
            induction m with
            | zero => intro h; omega
            | succ m ih =>
              intro him hml
              simp only [trun]
              by_cases hmi : m = i
              · subst hmi
                rw [if_pos ⟨by rw [getD_set _ _ _ hilt, if_pos rfl], by rw [hdi, hti]⟩]
              · rw [if_neg (fun hh => hc.dst i m t hi (by omega) hmi (by rw [hdi, hti]) hh.2)]
                exact ih (by omega) (by omega)
          exact this l.length hi (Nat.le_refl _)
        rw [hx1] at hx
        injection hx with hx
        subst hx
        have hlt := gd.dst t hti
        rw [hti, getD_put_same (by rw [hsz]; exact hlt), ← hti]
        refine keep val _ (fun d j b z hd hy hjd => ?_) hv
        subst hjd
        have := hc.un i j b z i hi hi hy (by rw [hdi, hd])
        exact absurd (hbl i this) (Nat.lt_irrefl _)
      · have hx1 : trun l ss (tget tm0) (fun k => listed.getD k false) l.length t = some x := by
          rw [← hx]
          refine trun_congr _ (fun _ _ => rfl) (fun k hk hd => ⟨?_, rfl⟩)
          rw [getD_set _ _ _ hilt, if_neg (fun hki => hti (by subst hki; rw [← hdi]; exact hd))]
        have hgd : (a.put o.dst val).tmps.getD t undef = a.tmps.getD t undef := by
          cases hd : o.dst with
          | none => rfl
          | some d => exact getD_put_ne (fun htd => hti (by rw [hd, htd]))
        rw [hgd]
        refine keep _ _ (fun d j b z hd hy hjd => ?_) ((ht t x hx1).ext e')
        subst hjd
        rcases trun_src hx1 with h | ⟨k, hk, hkS, hk2⟩
        · obtain ⟨z', hz'⟩ := allV_spec hV t x h
          rw [hz'] at hy; cases hy
        · have := hc.un k j b z i hk hi (by rw [← hk2]; exact hy) (by rw [hdi, hd])
          rw [hnot k hk this] at hkS; cases hkS
theorem Inv.any {bef : List (List Nat)} (hc : Chk l ss bef) (hV : allV tm0 = true) (hg : ∀ i o, l[i]? = some o → Good P l.toArray n clk tm0 hp0 l ss i o) (hQ : ∀ a w listed, Inv C n clk tm0 hp0 l ss listed a w → (∀ k, k < l.length → listed.getD k false = true) → Q .normal a w) :
    ∀ (fuel : Nat) (listed : Array Bool) (a : Act) (w : World), listed.toList.count false ≤ fuel → Inv C n clk tm0 hp0 l ss listed a w → wpAny P .any l.toArray Q fuel listed a w := by
  have full : ∀ (listed : Array Bool) (a : Act) (w : World), Inv C n clk tm0 hp0 l ss listed a w → Region.ready .any l.toArray listed = [] → ∀ k, k < l.length → listed.getD k false = true := by
    intro listed a w hI hr k
    induction k using Nat.strongRecOn with
    | _ k ih =>
      intro hk
      have hko : l[k]? = some l[k] := List.getElem?_eq_getElem hk
      rw [← Bool.not_eq_false]
      intro hkf
      have : k ∈ Region.ready .any l.toArray listed := by
        refine mem_ready.2 ⟨?_, l[k], by simp, fun e he hb => ?_⟩
        · have hkl : k < listed.size := by rw [hI.sz]; exact hk
          simpa [hkl] using hkf
        · have hee : e.on ∈ edg l[k] := List.mem_map.2 ⟨e, List.mem_filter.2 ⟨by simpa using he, hb⟩, rfl⟩
          exact ih e.on (hc.edge k _ hko _ hee) (by have := hc.edge k _ hko _ hee; omega)
      rw [hr] at this; cases this
  intro fuel
  induction fuel with
  | zero =>
    intro listed a w hcnt hI
    have hall : ∀ k, k < l.length → listed.getD k false = true := by
      intro k hk
      have hkl : k < listed.size := by rw [hI.sz]; exact hk
      rw [← Bool.not_eq_false]
      intro hkf
      have hmem : false ∈ listed.toList := by
        have : listed[k] = false := by simpa [hkl] using hkf
        rw [← this]; simp
      have := List.count_pos_iff.2 hmem
      omega
    refine ⟨?_, hQ a w listed hI hall⟩
    cases hr : Region.ready .any l.toArray listed with
    | nil => rfl
    | cons i r =>
      have hi : i ∈ Region.ready .any l.toArray listed := by rw [hr]; exact List.mem_cons_self ..
      obtain ⟨_, o, ho, _⟩ := mem_ready.1 hi
      have ho : l[i]? = some o := by rw [← ho]; simp
      obtain ⟨h1, h2, _⟩ := edg_ready hi ho hI.sz
      rw [hall i h2] at h1; cases h1
  | succ fuel ih =>
    intro listed a w hcnt hI
    refine ⟨fun hr => hQ a w listed hI (full listed a w hI hr), fun i hr => ?_⟩
    refine hI.step hc hV (hg i) hr (fun a' w' hI' => ih _ a' w' ?_ hI')
    obtain ⟨_, o, ho, _⟩ := mem_ready.1 hr
    have ho : l[i]? = some o := by rw [← ho]; simp
    obtain ⟨h1, h2, _⟩ := edg_ready hr ho hI.sz
    have hil : i < listed.toList.length := by rw [Array.length_toList, hI.sz]; exact h2
    have hli : listed.toList[i] = false := by
      have hkl : i < listed.size := by rw [hI.sz]; exact h2
      simpa [hkl] using h1
    have hpos : 0 < listed.toList.count false := List.count_pos_iff.2 (by rw [← hli]; exact List.getElem_mem hil)
    rw [Array.toList_setIfInBounds, List.count_set hil, hli]
    have e1 : (false == false) = true := rfl
    have e2 : (true == false) = false := rfl
    rw [e1, e2]
    simp only [if_true, Bool.false_eq_true, if_false]
    omega

def HDr (P : Program) (n clk : Nat) (tm0 : List (Nat × TV)) (hp0 : List (Nat × HObj)) (L : List Oper) (dn : List Oper) (ss : List HSpec) (rest : List Oper) (k : Nat) (tm : List (Nat × TV)) (hp : List (Nat × HObj)) (Fin : Prop) : Prop :=
  dn ++ rest = L → dn.length = k → VRun P L.toArray n clk tm0 hp0 dn ss tm hp → Fin
theorem hd_start {id : Nat} (h : HDr P n clk tm0 hp0 l [] [] l 0 tm0 hp0 (HWp C P (.region id l.toArray true) ⟨n, tm0, hp0, clk⟩ Q)) : HWp C P (.region id l.toArray true) ⟨n, tm0, hp0, clk⟩ Q := h rfl rfl .nil
theorem hd_nil {id : Nat} {dn : List Oper} {k : Nat} {tm : List (Nat × TV)} {hp : List (Nat × HObj)} (hm : P.follows .mixedOrders = true) (hc : chkR l ss tm0 = true) {c' : Nat} (hc' : clk + k = c') (h : HQ C Q .normal ⟨n, tm, hp, c'⟩) : HDr P n clk tm0 hp0 l dn ss [] k tm hp (HWp C P (.region id l.toArray true) ⟨n, tm0, hp0, clk⟩ Q) := by
  subst hc'
  intro hdl hk hv a w hs
  rw [List.append_nil] at hdl
  subst hdl; subst hk
  obtain ⟨hV, hchk⟩ := chk_of hc
  obtain ⟨g1, g2, g3, g4⟩ := hv.good
  obtain ⟨E, e0, r, hG, hsz, hdf, ht⟩ := hs
  have start : Inv C n clk tm0 hp0 dn ss (Array.replicate dn.length false) a w.drew := by
    have hf : ∀ k, (Array.replicate dn.length false).getD k false = false := by
      intro k; by_cases hk : k < dn.length <;> simp [hk]
    have hfun : (fun k => (Array.replicate dn.length false).getD k false) = fun _ => false := funext hf
    have hz : ∀ m, hrun ss (hget hp0) (fun _ => false) m = hget hp0 := by
      intro m
      induction m with
      | zero => rfl
      | succ m ih => simp only [hrun, Bool.false_eq_true, if_false]; exact ih
    have hzt : ∀ m t, trun dn ss (tget tm0) (fun _ => false) m t = tget tm0 t := by
      intro m t
      induction m with
      | zero => rfl
      | succ m ih => simp only [trun, Bool.false_eq_true, false_and, if_false]; exact ih
    refine ⟨by simp, (fun i o _ h => by rw [hf] at h; cases h), E, e0.trans (r.extBelow (Below.refl _ _).drew), (by rw [hfun, hz]; exact r.drew), fun g hg => .inl (hG g hg), hsz, hdf.ext (r.extBelow (Below.refl _ _).drew), fun t x hx => ?_⟩
    rw [hfun] at hx
    rw [hzt] at hx
    exact (ht t x hx).ext (r.extBelow (Below.refl _ _).drew)
  refine wp_region_any hm ?_
  have := Inv.any (C := C) (P := P) (Q := Q) hchk hV g4 (fun a' w' listed hI hall => h a' w' ?_) dn.toArray.size (Array.replicate dn.length false) a w.drew (by simp) start
  · simpa using this
  · obtain ⟨E', e', r', hG', hsz', hdf', ht'⟩ := hI.st
    have e1 : hrun ss (hget hp0) (fun k => listed.getD k false) dn.length = hget hp := by
      rw [g3]; funext id; exact hrun_congr _ (fun _ _ => rfl) (fun k hk _ => hall k hk)
    have e2 : ∀ t, trun dn ss (tget tm0) (fun k => listed.getD k false) dn.length t = tget tm t := by
      intro t; rw [g2]; exact trun_congr _ (fun _ _ => rfl) (fun k hk _ => ⟨hall k hk, rfl⟩)
    rw [e1] at r'
    refine ⟨E', e', r', fun g hg => ?_, hsz', hdf', fun t x hx => ht' t x (by rw [e2]; exact hx)⟩
    rcases hG' g hg with h | ⟨k, h1, _, h3⟩
    · show g < clk + dn.length; omega
    · show g < clk + dn.length; omega
section
variable {Fin : Prop} {o : Oper} {rest dn : List Oper} {k : Nat} {tm : List (Nat × TV)} {hp : List (Nat × HObj)} {L : List Oper} {pre post : List (Nat × HObj)} {v : HV}
theorem hd_cons (sp : HSpec) (d : Nat) (hd : o.dst = some d) (hst : HStep P L.toArray o (tget tm) (clk + k) sp) (hpre : ∀ p ∈ sp.pre, hget hp p.1 = some p.2) (hlt : Nat.blt d n = true) (h : HDr P n clk tm0 hp0 L (dn ++ [o]) (ss ++ [sp]) rest (k + 1) ((d, sp.tv) :: tm) (sp.post ++ hp) Fin) : HDr P n clk tm0 hp0 L dn ss (o :: rest) k tm hp Fin := by
  intro hL hk hv
  subst hk
  have := VRun.snoc dn ss tm hp o sp hv hst hpre (fun d' hd' => by rw [hd] at hd'; injection hd' with hd'; subst hd'; simpa [Nat.blt_eq] using hlt)
  have e : dtm o sp tm = (d, sp.tv) :: tm := by unfold dtm; rw [hd]
  rw [e] at this
  exact h (by simpa using hL) (by simp) this
theorem hd_cons_ (sp : HSpec) (hd : o.dst = none) (hst : HStep P L.toArray o (tget tm) (clk + k) sp) (hpre : ∀ p ∈ sp.pre, hget hp p.1 = some p.2) (h : HDr P n clk tm0 hp0 L (dn ++ [o]) (ss ++ [sp]) rest (k + 1) tm (sp.post ++ hp) Fin) : HDr P n clk tm0 hp0 L dn ss (o :: rest) k tm hp Fin := by
  intro hL hk hv
  subst hk
  have := VRun.snoc dn ss tm hp o sp hv hst hpre (fun d' hd' => by rw [hd] at hd'; cases hd')
  have e : dtm o sp tm = tm := by unfold dtm; rw [hd]
  rw [e] at this
  exact h (by simpa using hL) (by simp) this
theorem hd_q (d : Nat) (hop : HOp P o (pview (tget tm)) (clk + k) pre v []) (hd : o.dst = some d) (hg : o.guard = none) (hpre : ∀ p ∈ pre, hget hp p.1 = some p.2) (hlt : Nat.blt d n = true) (hk : True = True)
    {k' : Nat} (hk' : k + 1 = k') (h : HDr P n clk tm0 hp0 L (dn ++ [o]) (ss ++ [⟨.v v, ops_tmps o, pre, []⟩]) rest k' ((d, .v v) :: tm) hp Fin) : HDr P n clk tm0 hp0 L dn ss (o :: rest) k tm hp Fin := by subst hk'; exact hd_cons ⟨.v v, ops_tmps o, pre, []⟩ d hd (hstep_plain hg hop) hpre hlt h
theorem hd_g (d gi j : Nat) (b c : Bool) (hop : c = b → HOp P o (gview (tget tm) j b) (clk + k) pre v []) (hd : o.dst = some d) (hg : o.guard = some (gi, b)) (hgi : (L.toArray[gi]?).bind (·.dst) = some j) (hc : tget tm j = some (.v (.imm (.bool c)))) (hpre : ∀ p ∈ pre, hget hp p.1 = some p.2) (hlt : Nat.blt d n = true) (hk : True = True) (hjd : True = True)
    {k' : Nat} (hk' : k + 1 = k') (h : HDr P n clk tm0 hp0 L (dn ++ [o]) (ss ++ [⟨.un j b v, j :: ops_tmps o, pre, []⟩]) rest k' ((d, .un j b v) :: tm) hp Fin) : HDr P n clk tm0 hp0 L dn ss (o :: rest) k tm hp Fin := by subst hk'; exact hd_cons ⟨.un j b v, j :: ops_tmps o, pre, []⟩ d hd (hstep_guard gi j b c hg hgi (.inl hc) hop) hpre hlt h
theorem hd_m (d : Nat) (hop : HOp P o (pview (tget tm)) (clk + k) pre v post) (hd : o.dst = some d) (hg : o.guard = none) (hpre : ∀ p ∈ pre, hget hp p.1 = some p.2) (hlt : Nat.blt d n = true) (hk : True = True)
    {k' : Nat} (hk' : k + 1 = k') (h : HDr P n clk tm0 hp0 L (dn ++ [o]) (ss ++ [⟨.v v, ops_tmps o, pre, post⟩]) rest k' ((d, .v v) :: tm) (post ++ hp) Fin) : HDr P n clk tm0 hp0 L dn ss (o :: rest) k tm hp Fin := by subst hk'; exact hd_cons ⟨.v v, ops_tmps o, pre, post⟩ d hd (hstep_plain hg hop) hpre hlt h
theorem hd_1 (d : Nat) {id : Nat} {ob : HObj} (hop : HOp P o (pview (tget tm)) (clk + k) pre v [(id, ob)]) (hd : o.dst = some d) (hg : o.guard = none) (hpre : ∀ p ∈ pre, hget hp p.1 = some p.2) (hlt : Nat.blt d n = true) (hk : True = True)
    {k' : Nat} (hk' : k + 1 = k') (h : HDr P n clk tm0 hp0 L (dn ++ [o]) (ss ++ [⟨.v v, ops_tmps o, pre, [(id, ob)]⟩]) rest k' ((d, .v v) :: tm) ((id, ob) :: hp) Fin) : HDr P n clk tm0 hp0 L dn ss (o :: rest) k tm hp Fin := by subst hk'; exact hd_m d hop hd hg hpre hlt hk rfl h
theorem hd_s1 {id : Nat} {ob : HObj} (hop : HOp P o (pview (tget tm)) (clk + k) pre v [(id, ob)]) (hd : o.dst = none) (hg : o.guard = none) (hpre : ∀ p ∈ pre, hget hp p.1 = some p.2)
    {k' : Nat} (hk' : k + 1 = k') (h : HDr P n clk tm0 hp0 L (dn ++ [o]) (ss ++ [⟨.v v, ops_tmps o, pre, [(id, ob)]⟩]) rest k' tm ((id, ob) :: hp) Fin) : HDr P n clk tm0 hp0 L dn ss (o :: rest) k tm hp Fin := by subst hk'; exact hd_cons_ ⟨.v v, ops_tmps o, pre, [(id, ob)]⟩ hd (hstep_plain hg hop) hpre h
theorem hd_p (d : Nat) {need : List Nat} (hst : HStep P L.toArray o (tget tm) (clk + k) ⟨.v v, need, [], []⟩) (hd : o.dst = some d) (hlt : Nat.blt d n = true) (hk : True = True)
    {k' : Nat} (hk' : k + 1 = k') (h : HDr P n clk tm0 hp0 L (dn ++ [o]) (ss ++ [⟨.v v, need, [], []⟩]) rest k' ((d, .v v) :: tm) hp Fin) : HDr P n clk tm0 hp0 L dn ss (o :: rest) k tm hp Fin := by subst hk'; exact hd_cons ⟨.v v, need, [], []⟩ d hd hst pre0 hlt h
end
end
end Go.Proofs.YtijpdbjcmnpobaaDoor
