/-
  Aggregates stored into the middle of a block; rows of the call's own that are written to, cut, and read. Plain lemmas, no program in sight.
-/
import Derived.Test.YtijpdbjcmnpobaaDoorBase
import Derived.Deep.MidRow
namespace Go.Proofs.YtijpdbjcmnpobaaDoor
set_option linter.unusedSimpArgs false
set_option linter.unusedVariables false
open Go.RowKit

/-- n cells are there from an offset on, and may be written. -/
def thereB (w : World) (g off n : Nat) : Bool := (List.range n).all fun j => (w.cell? ⟨g, off + j, none⟩).isSome && !(w.frozen? ⟨g, off + j, none⟩)
theorem thereB_iff (w : World) (g off n : Nat) : thereB w g off n = true ↔ w.there g off n := by
  unfold thereB World.there
  rw [List.all_eq_true]
  constructor
  · intro h j hj
    have := h j (List.mem_range.2 hj)
    simp only [Bool.and_eq_true, Bool.not_eq_true'] at this
    exact this
  · intro h j hj
    have := h j (List.mem_range.1 hj)
    simp only [Bool.and_eq_true, Bool.not_eq_true']
    exact this
def midStore (P : Program) (T : TypeId) (sz : Nat) (w : World) (p x : Value) : Result Next :=
  match p, x with
  | .pointer (some ⟨g, off, none⟩), .agg cs => if thereB w g off sz = true ∧ cs.size = sz ∧ cs.all (·.oneCell') = true then .ok .skip (w.setCells g off cs.toList) else origStore P T w (.pointer (some ⟨g, off, none⟩)) (.agg cs)
  | p, x => origStore P T w p x
theorem midStore_at (P : Program) (T : TypeId) (sz : Nat) (w : World) (g off : Nat) (cs : Array Value) : midStore P T sz w (.pointer (some ⟨g, off, none⟩)) (.agg cs) =
    if thereB w g off sz = true ∧ cs.size = sz ∧ cs.all (·.oneCell') = true then .ok .skip (w.setCells g off cs.toList) else origStore P T w (.pointer (some ⟨g, off, none⟩)) (.agg cs) := rfl
theorem run_store_mid {P : Program} (T : TypeId) (sz : Nat) (hsz : (P.info? T).map (·.size) = some sz) (w : World) (ρ : Operand → Value) (p x : Operand)
    (d : Option Tmp) (ty : TypeId) (pos : String) (af : Array _) (g : Option _) : (execOp ρ ⟨d, .store T p x, ty, pos, af, g⟩).run P w = midStore P T sz w (ρ p) (ρ x) := by
  have horig : (execOp ρ ⟨d, .store T p x, ty, pos, af, g⟩).run P w = origStore P T w (ρ p) (ρ x) := rfl
  rw [horig]
  unfold midStore
  split
  · split
    · rename_i g off cs hq hx hc
      have := run_storeAt_mid (P := P) w g off T cs ((thereB_iff _ _ _ _).1 (by rw [hc.2.1]; exact hc.1)) (by rw [hsz, hc.2.1]) hc.2.2
      rw [hq, hx]
      unfold origStore
      simp only [Sem.run_bind, this, Result.andThen_ok, Sem.run_pure]
    · rename_i hq hx _
      rw [hq, hx]
  · rfl

theorem isSome_setCell (w : World) (p q : Addr) (u : Value) (h : (w.cell? q).isSome = true) : ((w.setCell p u).cell? q).isSome = true := by
  obtain ⟨v, hv⟩ := Option.isSome_iff_exists.1 h
  obtain ⟨v', hv'⟩ := cell?_setCell_some (w := w) (p := p) (x := u) (q := q) (v := v) hv
  rw [hv']; rfl
theorem isSome_setCells (g : Nat) (q : Addr) : ∀ (vs : List Value) (o : Nat) (w : World), (w.cell? q).isSome = true → ((w.setCells g o vs).cell? q).isSome = true
  | [], _, _, h => h
  | v :: r, o, w, h => by rw [World.setCells]; exact isSome_setCells g q r _ _ (isSome_setCell _ _ _ _ h)
theorem thereB_setCells (w : World) (g' o : Nat) (vs : List Value) (g off n : Nat) (h : thereB w g off n = true) : thereB (w.setCells g' o vs) g off n = true := by
  rw [thereB_iff] at h ⊢
  exact fun j hj => ⟨isSome_setCells _ _ _ _ _ (h j hj).1, by rw [World.frozen?_setCells]; exact (h j hj).2⟩
theorem thereB_setCell (w : World) (p : Addr) (u : Value) (g off n : Nat) (h : thereB w g off n = true) : thereB (w.setCell p u) g off n = true := by
  rw [thereB_iff] at h ⊢
  exact fun j hj => ⟨isSome_setCell _ _ _ _ (h j hj).1, by rw [World.frozen?_setCell]; exact (h j hj).2⟩
theorem thereB_drew (w : World) (g off n : Nat) : thereB w.drew g off n = thereB w g off n := rfl
theorem thereB_drewN (w : World) (k g off n : Nat) : thereB (w.drewN k) g off n = thereB w g off n := rfl
theorem thereB_heap {w w' : World} {g : Nat} (h : w'.heap[g]? = w.heap[g]?) (off n : Nat) : thereB w' g off n = thereB w g off n := by
  unfold thereB
  congr 1
  funext j
  rw [World.cell?_of_block (w := w) (w' := w') (a := ⟨g, off + j, none⟩) h, World.frozen?_of_block (w := w) (w' := w') (a := ⟨g, off + j, none⟩) h]
theorem thereB_blk {w : World} {g : Nat} {t : TypeId} {cs : Array Value} (h : Blk w g t cs) (off n : Nat) (hn : off + n ≤ cs.size) : thereB w g off n = true := by
  rw [thereB_iff]
  intro j hj
  rw [h.cell, h.frozen, Array.getElem?_eq_getElem (by omega)]
  exact ⟨rfl, rfl⟩
theorem thereB_new (w : World) (cs : Array Value) (t : TypeId) (g off n : Nat) (hg : g = w.heap.size) (h : off + n ≤ cs.size) : thereB (w.alloc (.cells cs t)) g off n = true := by
  subst hg; exact thereB_blk (Blk.new w t cs) off n h
theorem thereB_alloc (w : World) (o : Obj) (g off n : Nat) (hg : g < w.heap.size) : thereB (w.alloc o) g off n = thereB w g off n := thereB_heap (Below.heap_alloc w o g hg) off n

theorem heap_setCells_other (b : Nat) : ∀ (vs : List Value) (o : Nat) (w : World) (k : Nat), k ≠ b → (w.setCells b o vs).heap[k]? = w.heap[k]?
  | [], _, _, _, _ => rfl
  | v :: r, o, w, k, h => by rw [World.setCells, heap_setCells_other b r _ _ _ h]; exact Below.heap_setCell w _ v k h
theorem size_setCells (b : Nat) : ∀ (vs : List Value) (o : Nat) (w : World), (w.setCells b o vs).heap.size = w.heap.size
  | [], _, _ => rfl
  | v :: r, o, w => by rw [World.setCells, size_setCells b r]; simp [World.setCell]
theorem bel_setCells {B : Nat} {a w : World} (h : Below B a w) {b : Nat} (hb : B ≤ b) : ∀ (vs : List Value) (o : Nat), Below B a (w.setCells b o vs) := by
  intro vs
  induction vs generalizing w with
  | nil => intro o; exact h
  | cons v r ih => intro o; exact ih (h.setCell hb v) (o + 1)
theorem grown_setCells (w : World) (b : Nat) : ∀ (vs : List Value) (o : Nat), w.grownBy (w.setCells b o vs) (some b) := by
  intro vs o
  refine ⟨?_, ?_, ?_, by rw [size_setCells]; exact Nat.le_refl _, fun k _ hk => heap_setCells_other b vs o w k (fun e => hk (by rw [e]))⟩
  all_goals (induction vs generalizing w o with
    | nil => rfl
    | cons v r ih => rw [World.setCells, ih]; rfl)

theorem Blk.setCells_far {w : World} {g : Nat} {t : TypeId} {cs : Array Value} (h : Blk w g t cs) {b : Nat} (hb : g ≠ b) (vs : List Value) (o : Nat) : Blk (w.setCells b o vs) g t cs := (heap_setCells_other b vs o w g hb).trans h
theorem rd_setCells_far (w : World) (b o : Nat) (vs : List Value) (a : Addr) (n : Nat) (h : a.block ≠ b) : rd (w.setCells b o vs) a n = rd w a n := rd_heap (heap_setCells_other b vs o w _ h) n

/-- What a list reads as once some cells were put into it. -/
def putL : List Value → Nat → List Value → List Value
  | xs, _, [] => xs
  | xs, o, v :: r => putL (xs.set o v) (o + 1) r
theorem putL_length : ∀ (vs xs : List Value) (o : Nat), (putL xs o vs).length = xs.length
  | [], _, _ => rfl
  | v :: r, xs, o => by rw [putL, putL_length r]; simp
theorem putL_get : ∀ (vs xs : List Value) (o j : Nat), o + vs.length ≤ xs.length → (putL xs o vs)[j]? = if o ≤ j ∧ j < o + vs.length then vs[j - o]? else xs[j]?
  | [], xs, o, j, _ => by rw [putL, if_neg (by simp only [List.length_nil]; omega)]
  | v :: r, xs, o, j, h => by
    simp only [List.length_cons] at h
    rw [putL, putL_get r _ _ _ (by simp; omega)]
    by_cases h1 : o + 1 ≤ j ∧ j < o + 1 + r.length
    · rw [if_pos h1, if_pos (by simp only [List.length_cons]; omega), show j - o = (j - (o + 1)) + 1 from by omega, List.getElem?_cons_succ]
    · rw [if_neg h1]
      by_cases h2 : j = o
      · subst h2
        rw [if_pos (by simp), Nat.sub_self, List.getElem?_cons_zero, List.getElem?_set_self (by omega)]
      · rw [if_neg (by simp only [List.length_cons]; omega), List.getElem?_set_ne (by omega)]
theorem ownsRow_setCells {base : Nat} {e : TypeId} {size g n cap : Nat} : ∀ (vs : List Value) (o : Nat) (w : World) (xs : List Value), w.ownsRow base e size (.slice (some ⟨g, 0, none⟩) n cap) n xs → o + vs.length ≤ n * size →
    (w.setCells g o vs).ownsRow base e size (.slice (some ⟨g, 0, none⟩) n cap) n (putL xs o vs)
  | [], _, _, _, h, _ => h
  | v :: r, o, w, xs, h, hl => by
    simp only [List.length_cons] at hl
    exact ownsRow_setCells r (o + 1) _ _ (h.stored o v).1 (by omega)
theorem flatMap_len {α : Type} {enc : α → List Value} {size : Nat} (he : ∀ x, (enc x).length = size) (l : List α) : (l.flatMap enc).length = l.length * size := by
  induction l with
  | nil => simp
  | cons x l ih => simp [List.flatMap_cons, ih, he, Nat.add_mul, Nat.add_comm]
theorem flatMap_set {α : Type} {enc : α → List Value} {size : Nat} (he : ∀ x, (enc x).length = size) (hs : 0 < size) (l : List α) (k : Nat) (hk : k < l.length) (x : α) :
    putL (l.flatMap enc) (k * size) (enc x) = (l.set k x).flatMap enc := by
  have hle : (k + 1) * size ≤ l.length * size := Nat.mul_le_mul_right _ hk
  rw [Nat.add_mul, Nat.one_mul] at hle
  apply List.ext_getElem?
  intro j
  rw [putL_get _ _ _ _ (by rw [flatMap_len he, he]; exact hle), he]
  by_cases hj : j < l.length * size
  · have hjd : j / size < l.length := (Nat.div_lt_iff_lt_mul hs).2 hj
    have hjm : j % size < size := Nat.mod_lt _ hs
    have e1 : j = j / size * size + j % size := by rw [Nat.mul_comm]; exact (Nat.div_add_mod j size).symm
    have h1 := flatMap_at he l _ _ hjd hjm
    have h2 := flatMap_at he (l.set k x) (j / size) (j % size) (by simpa using hjd) hjm
    rw [← e1] at h1 h2
    rw [h1, h2, List.getElem_set]
    by_cases hq : k = j / size
    · subst hq
      rw [if_pos ⟨by omega, by omega⟩, if_pos rfl]
      congr 1
      omega
    · rw [if_neg hq, if_neg]
      intro hh
      apply hq
      have := (Nat.div_eq_iff (by omega)).2 ⟨hh.1, by omega⟩
      omega
  · rw [if_neg (by omega), List.getElem?_eq_none (by rw [flatMap_len he]; omega), List.getElem?_eq_none (by rw [flatMap_len he]; simp; omega)]

section
variable {α : Type} {w w' : World} {base size : Nat} {e : TypeId} {enc : α → List Value} {l : List α}
theorem Own.set_ {g n c : Nat} (h : Own w base e size enc (.slice (some ⟨g, 0, none⟩) n c) l) (hs : 0 < size) (k : Nat) (hk : k < n) (x : α) : Own (w.setCells g (k * size) (enc x)) base e size enc (.slice (some ⟨g, 0, none⟩) n c) (l.set k x) := by
  have hn := h.cap.2
  subst hn
  refine ⟨h.1, ?_⟩
  have hle : (k + 1) * size ≤ l.length * size := Nat.mul_le_mul_right _ hk
  rw [Nat.add_mul, Nat.one_mul] at hle
  have := ownsRow_setCells (enc x) (k * size) w _ h.2 (by rw [h.1]; exact hle)
  rw [flatMap_set h.1 hs l k hk x] at this
  simpa using this
theorem Own.there_ {g n c : Nat} (h : Own w base e size enc (.slice (some ⟨g, 0, none⟩) n c) l) (k : Nat) (hk : k < n) : thereB w g (k * size) size = true := by
  have hn := h.cap.2
  subst hn
  have hle : (k + 1) * size ≤ l.length * size := Nat.mul_le_mul_right _ hk
  rw [Nat.add_mul, Nat.one_mul] at hle
  rw [thereB_iff]
  intro j hj
  rw [h.2.cellAt _ (by omega), h.2.frozenAt, List.getElem?_eq_getElem (by rw [flatMap_len h.1]; omega)]
  exact ⟨rfl, rfl⟩
theorem Own.addr0 {A : Option Addr} {n c : Nat} (h : Own w base e size enc (.slice A n c) l) (hn : 0 < n) : ∃ g, A = some ⟨g, 0, none⟩ ∧ base ≤ g ∧ g < w.heap.size := by
  rcases h.2.2 with ⟨hv, h0⟩ | ⟨g, cap, cur, hv, hb, hh, _⟩
  · have := h.cap.2; omega
  · injection hv with h1 h2 h3
    subst h1
    have := h.lt g rfl
    exact ⟨g, rfl, this.1, this.2⟩
/-- The last ones dropped: s[:k]. -/
theorem Own.take_ {A : Option Addr} {n c : Nat} (h : Own w base e size enc (.slice A n c) l) (k : Nat) (hk : k ≤ n) : Own w base e size enc (.slice A k c) (l.take k) := by
  have hn := h.cap.2
  subst hn
  have hlen : (l.take k).length = k := by simp; omega
  refine ⟨h.1, by rw [flatMap_len h.1], ?_⟩
  rw [hlen]
  rcases h.2.2 with ⟨hv, h0⟩ | ⟨g, cap, cur, hv, hb, hh, h4, h5, h6, h7⟩
  · injection hv with h1 h2 h3
    subst h1; subst h3
    have : k = 0 := by omega
    subst this
    exact .inl ⟨rfl, rfl⟩
  · injection hv with h1 h2 h3
    subst h1; subst h3
    refine .inr ⟨g, c, cur, rfl, hb, hh, by omega, h5, h6, ?_⟩
    have hle : k * size ≤ l.length * size := Nat.mul_le_mul_right _ hk
    have e1 : cur.toList.take (k * size) = (l.flatMap enc).take (k * size) := by
      rw [← h7, List.take_take, Nat.min_eq_left hle]
    rw [e1]
    have : ∀ (l : List α) (k : Nat), (l.flatMap enc).take (k * size) = (l.take k).flatMap enc := by
      intro l
      induction l with
      | nil => intro k; simp
      | cons x l ih =>
        intro k
        cases k with
        | zero => simp
        | succ k => simp only [List.take_succ_cons, List.flatMap_cons]; rw [← ih k, Nat.add_mul, Nat.one_mul, Nat.add_comm, List.take_append, h.1, Nat.add_sub_cancel_left, List.take_of_length_le (by rw [h.1]; omega)]
    exact this l k
end

/-- append(s, x...) in a region that draws its order: for 'go_region_law'. -/
theorem step_append_sl {α : Type} {P : Program} {w : World} {ops : Array Oper} {o : Oper} {a : Act} {K : Act → World → Prop} {Q : Exit → Act → World → Prop} {E' : Prop} (hgd : o.guard = none) (s x : Operand) (t : TypeId)
    (ho : o.op = .call { callee := .builtin .append, args := #[s, x], argTypes := #[t, t] })
    {e : TypeId} {size bytes : Nat} (E : Elem P t e size bytes) (base : Nat) (enc : α → List Value) (h1 : ∀ x, ∀ u ∈ enc x, u.oneCell' = true)
    (v : Value) (l : List α) (nl : Nat) (hnl : l.length = nl) (hs : a.eval s = v) (hown : Own w base e size enc v l)
    (B : Nat) (A : Option Addr) (n c : Nat) (m : List α) (hx : a.eval x = .slice A n c) (hn : m.length = n) (hr : Sl w B size enc A m)
    (hlen : nl + n ≤ 2000000000) (hbase : base ≤ w.heap.size)
    (h : ∀ A' c' w', Own w' base e size enc (.slice A' (nl + n) c') (l ++ m) → w.grownBy w' v.ownBlock → ((Value.slice A' (nl + n) c').ownBlock = v.ownBlock ∨ (Value.slice A' (nl + n) c').ownBlock = some w.heap.size) →
      K (a.put o.dst (.slice A' (nl + n) c')) w') : if Region.wanted o (yielded ops a.tmps) = true then Oper.wp P o a w K Q else E' := by
  subst hn
  subst hnl
  obtain ⟨i, z, hi, hz, hsz, hby, hzs⟩ := E.info
  refine step_append_any w hgd s x t ho base e i z size bytes E.ht hi hz hsz hby hzs E.pos v l.length (l.flatMap enc) hs hown.2 B A m.length c (m.flatMap enc) hx hr.2 (fun u hu => ?_) (by unfold maxLen; omega) ?_ hbase ?_
  · obtain ⟨y, _, hy⟩ := List.mem_flatMap.1 hu
    exact h1 y u hy
  · have := Nat.mul_le_mul hlen E.small
    omega
  · intro v' w' h2 h3 h4
    have h5 : Own w' base e size enc v' (l ++ m) := ⟨hown.1, by rw [List.length_append, List.flatMap_append]; exact h2⟩
    obtain ⟨A', c', hv, _⟩ := h5.form
    rw [List.length_append] at hv
    subst hv
    exact h A' c' w' h5 h3 h4

theorem rd_setCells_same (w : World) (g o n : Nat) (cs : List Value) (h : thereB w g o n = true) (hn : cs.length = n) : rd (w.setCells g o cs) ⟨g, o, none⟩ n = some cs := by
  rw [thereB_iff] at h
  subst hn
  refine rd_of_each rfl fun i hi => ?_
  rw [Addr.add_mid, World.cell?_setCells_in g cs o w (fun j hj => (h j hj).1) i hi, List.getElem?_eq_getElem hi]
theorem rd_setCell_far (w : World) (p : Addr) (u : Value) (a : Addr) (n : Nat) (h : a.block ≠ p.block) : rd (w.setCell p u) a n = rd w a n := rd_setCell w p u a n h
theorem cell_setCells_far (w : World) (b o : Nat) (vs : List Value) (b' o' : Nat) (h : b' ≠ b) : (w.setCells b o vs).cell? ⟨b', o', none⟩ = w.cell? ⟨b', o', none⟩ := World.cell?_of_block (heap_setCells_other b vs o w b' h)

/-- A box of the call's own, just laid and stored into. -/
theorem rd_box (w : World) (cs0 : Array Value) (t : TypeId) (g n : Nat) (cs : List Value) (hg : g = w.heap.size) (h0 : cs0.size = n) (hn : cs.length = n) : rd ((w.alloc (.cells cs0 t)).setCells g 0 cs) ⟨g, 0, none⟩ n = some cs :=
  rd_setCells_same _ _ _ _ _ (thereB_new w cs0 t g 0 n hg (by omega)) hn
theorem there_box (w : World) (cs0 : Array Value) (t : TypeId) (g' o n g off : Nat) (cs : List Value) (hg : g < w.heap.size) (h : thereB w g off n = true) : thereB ((w.alloc (.cells cs0 t)).setCells g' o cs) g off n = true :=
  thereB_setCells _ _ _ _ _ _ _ (by rw [thereB_alloc _ _ _ _ _ hg]; exact h)

/-- A value method called through an interface that holds a pointer. -/
theorem run_method_val {P : Program} (n : Nat) (t : TypeId) (i : TypeInfo) (hi : P.info? t = some i) (name : String) (f : FuncId) (m : _) (hm : i.methods.find? (·.name == name) = some m) (hp : m.path = #[]) (hf : m.func = some (f, false))
    (elem : TypeId) (hu : P.underlying t = some (.pointer elem)) (a : Addr) (v : Value) (w : World) (hl : (loadVar elem a).run P w = .ok v w) : (method (n + 1) t (.pointer (some a)) name).run P w = .ok (f, v) w := by
  have hnil : ∀ (xt : TypeId) (s : String), (Builtin.ssaWrapNilChk_ #[xt] xt #[.pointer (some a), strVal "", strVal s]).run P w = .ok (.pointer (some a)) w := fun _ _ => rfl
  unfold method
  simp [Sem.run_bind, typeInfo, hi, hm, hp, hf, follow, receiverAt, Place.get, run_underlying hu, hnil, asAddr, hl]
theorem run_method_row {P : Program} (n : Nat) (t : TypeId) (name : String) (f : FuncId) (h : ((P.info? t).bind fun i => (i.methods.find? (·.name == name)).map fun m => (m.path.isEmpty, m.func)) = some (true, some (f, false)))
    (elem : TypeId) (hu : P.underlying t = some (.pointer elem)) (a : Addr) (v : Value) (w : World) (hl : (loadVar elem a).run P w = .ok v w) : (method (n + 1) t (.pointer (some a)) name).run P w = .ok (f, v) w := by
  obtain ⟨i, hi, h⟩ := Option.bind_eq_some_iff.1 h
  obtain ⟨m, hm, h⟩ := Option.map_eq_some_iff.1 h
  injection h with h1 h2
  exact run_method_val n t i hi name f m hm (by simpa using h1) h2 elem hu a v w hl
theorem cell_box (w : World) (cs0 : Array Value) (t : TypeId) (g j : Nat) (cs : List Value) (hg : g = w.heap.size) (h : cs.length = cs0.size) : ((w.alloc (.cells cs0 t)).setCells g 0 cs).cell? ⟨g, j, none⟩ = cs[j]? := by
  subst hg
  by_cases hj : j < cs.length
  · have := World.cell?_setCells_in w.heap.size cs 0 (w.alloc (.cells cs0 t)) (fun i hi => by rw [Nat.zero_add, cell_new, Array.getElem?_eq_getElem (by omega)]; rfl) j hj
    rw [Nat.zero_add] at this
    rw [this, List.getElem?_eq_getElem hj]
  · rw [World.cell?_setCells_out _ _ _ _ _ (fun _ _ => Or.inr (by simp; omega)), cell_new, Array.getElem?_eq_none (by omega), List.getElem?_eq_none (by omega)]
end Go.Proofs.YtijpdbjcmnpobaaDoor
