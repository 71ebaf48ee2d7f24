/-
  Words for memory: a slice that reads as a list of encoded elements, a block that is known whole, an append onto a row of the call's own. Plain lemmas, no program in sight.
-/
import Derived.WalkKit
import Derived.WalkSpells
import Derived.WalkLawsBesides
import Derived.Below
import Derived.Laws.OwnMore
import Derived.Laws.Rows
import Derived.Maps.AppendAt
import Derived.Deep.AppendLies
import Derived.Deep.Draws
import Derived.RegionTactic
import Derived.OwnWalk
import Derived.Deep.QuietTactic
import Derived.BigQuiet
import Derived.Deep.LoopGhost
import Derived.Lib.Hide
import Derived.Deep.RegionHeld3
import Derived.Laws.Tables
import Derived.Deep.WholeRow
import Derived.Deep.CutBlock
import Derived.Deep.DeepCutAuto
import Derived.DataShut
namespace Go.Proofs.YtijpdbjcmnpobaaDoor
set_option linter.unusedSimpArgs false
set_option linter.unusedVariables false
open Go.RowKit

theorem block_of_add (a : Addr) (n : Nat) : (a.add n).block = a.block := by unfold Addr.add; split <;> rfl
theorem add_of_add (a : Addr) (i j : Nat) : (a.add i).add j = a.add (i + j) := by
  unfold Addr.add
  by_cases hi : i = 0 <;> by_cases hj : j = 0 <;> simp [hi, hj, Nat.add_assoc]

theorem ret_int {k : IntKind} {a b : Int} (h : a = b) : Ending.returned (.int k a) = Ending.returned (.int k b) := by rw [h]
theorem ret_bool {a b : Bool} (h : a = b) : Ending.returned (.bool a) = Ending.returned (.bool b) := by rw [h]

/-- The n cells from an address on. -/
def rd (w : World) (a : Addr) (n : Nat) : Option (List Value) := w.cells? 0 a n

theorem rd_of_each {w : World} {a : Addr} {n : Nat} {cs : List Value} (hn : cs.length = n) (h : ∀ i, i < n → w.cell? (a.add i) = cs[i]?) : rd w a n = some cs :=
  World.cells?_of_each (Nat.zero_le _) hn h
theorem rd_cell {w : World} {a : Addr} {n : Nat} {cs : List Value} (h : rd w a n = some cs) : cs.length = n ∧ ∀ i, i < n → w.cell? (a.add i) = cs[i]? :=
  let ⟨_, h2, h3⟩ := World.cells?_some h
  ⟨h2, h3⟩
theorem rd_heap {w w' : World} {a : Addr} (h : w'.heap[a.block]? = w.heap[a.block]?) (n : Nat) : rd w' a n = rd w a n := by
  unfold rd World.cells?
  have : (fun i => w'.cell? (a.add i)) = fun i => w.cell? (a.add i) := funext fun i => World.cell?_of_block (by rw [block_of_add]; exact h)
  rw [this]
theorem rd_drew (w : World) (a : Addr) (n : Nat) : rd w.drew a n = rd w a n := rd_heap rfl n
theorem rd_drewN (w : World) (k : Nat) (a : Addr) (n : Nat) : rd (w.drewN k) a n = rd w a n := rd_heap rfl n
theorem rd_alloc (w : World) (o : Obj) (a : Addr) (n : Nat) (h : a.block < w.heap.size) : rd (w.alloc o) a n = rd w a n := rd_heap (Below.heap_alloc w o _ h) n
theorem rd_setCell (w : World) (p : Addr) (u : Value) (a : Addr) (n : Nat) (h : a.block ≠ p.block) : rd (w.setCell p u) a n = rd w a n := rd_heap (Below.heap_setCell w p u _ h) n
theorem rd_below {B : Nat} {w w' : World} (h : Below B w w') (a : Addr) (n : Nat) (hb : a.block < B) : rd w' a n = rd w a n := rd_heap (h.block _ hb) n

/-- A whole aggregate, loaded. -/
theorem run_loadAt_rd {P : Program} (T : TypeId) (hagg : ∀ w, (isAgg T).run P w = .ok true w) (sz : Nat) (hsz : ∀ w, (sizeOf T).run P w = .ok sz w) (w : World) (a : Addr) (h : (rd w a sz).isSome = true) :
    (Instr.loadAt T (.pointer (some a))).run P w = .ok (.agg ((rd w a sz).getD []).toArray) w := by
  cases hr : rd w a sz with
  | none => simp [hr] at h
  | some cs =>
    obtain ⟨hl, hc⟩ := rd_cell hr
    have := run_loadCells_list (P := P) w a cs (fun j v hv => by
      have hj : j < cs.length := by
        rcases Nat.lt_or_ge j cs.length with h | h
        · exact h
        · rw [List.getElem?_eq_none h] at hv; cases hv
      rw [hc j (by omega), hv])
    rw [hl] at this
    simp only [Instr.loadAt, Instr.sureAddr, loadVar, Sem.run_bind, Sem.run_pure, Result.andThen, hagg, hsz, if_true, this, Option.getD_some]

/-! A WHOLE AGGREGATE, LOADED BY ONE OPERATION: 'aggLoad' says what comes of it by 'rd'. -/
def aggRes (P : Program) (T : TypeId) (w : World) (a : Addr) : Option (List Value) → Result Next
  | some cs => .ok (.value (.agg cs.toArray)) w
  | none => (execOp (fun _ => .pointer (some a)) ⟨none, .load T (.const undef), 0, "", #[], none⟩).run P w
def aggLoad (P : Program) (T : TypeId) (sz : Nat) (w : World) : Value → Result Next
  | .pointer (some a) => aggRes P T w a (rd w a sz)
  | v => (execOp (fun _ => v) ⟨none, .load T (.const undef), 0, "", #[], none⟩).run P w
theorem aggLoad_ptr (P : Program) (T : TypeId) (sz : Nat) (w : World) (a : Addr) : aggLoad P T sz w (.pointer (some a)) = aggRes P T w a (rd w a sz) := rfl
theorem aggRes_some (P : Program) (T : TypeId) (w : World) (a : Addr) (cs : List Value) : aggRes P T w a (some cs) = .ok (.value (.agg cs.toArray)) w := rfl
theorem run_load_agg {P : Program} (T : TypeId) (hagg : ∀ w, (isAgg T).run P w = .ok true w) (sz : Nat) (hsz : ∀ w, (sizeOf T).run P w = .ok sz w) (w : World) (ρ : Operand → Value) (x : Operand)
    (d : Option Tmp) (ty : TypeId) (pos : String) (af : Array _) (g : Option _) : (execOp ρ ⟨d, .load T x, ty, pos, af, g⟩).run P w = aggLoad P T sz w (ρ x) := by
  unfold aggLoad
  split
  · rename_i a ha
    unfold aggRes
    split
    · rename_i cs hr
      have := run_loadAt_rd T hagg sz hsz w a (by rw [hr]; rfl)
      rw [hr] at this
      simp only [execOp, ha, Sem.run_bind, this, Result.andThen_ok]
      rfl
    · simp only [execOp, ha]
  · simp only [execOp]

def Reads (w : World) (B size : Nat) (A : Option Addr) (n : Nat) (xs : List Value) : Prop :=
  xs.length = n * size ∧ (0 < n → ∃ ad, A = some ad ∧ ad.block < B ∧ ∀ j u, xs[j]? = some u → w.cell? (ad.add j) = some u)

section
variable {w w' : World} {B B' size n : Nat} {A : Option Addr} {xs : List Value}
theorem Reads.none_ : Reads w B size A 0 [] := ⟨by simp, fun h => absurd h (by omega)⟩
theorem Reads.at_ {k : Nat} (h : Reads w B 1 A n xs) (hk : k < n) : ∃ ad u, A = some ad ∧ ad.block < B ∧ xs[k]? = some u ∧ w.cell? (ad.add k) = some u := by
  obtain ⟨ad, e, hb, hc⟩ := h.2 (by omega)
  have hl : k < xs.length := by have := h.1; omega
  exact ⟨ad, xs[k], e, hb, List.getElem?_eq_getElem hl, hc k _ (List.getElem?_eq_getElem hl)⟩
theorem Reads.keep (h : Reads w B size A n xs) (hk : ∀ p : Addr, p.block < B → w'.cell? p = w.cell? p) : Reads w' B size A n xs :=
  ⟨h.1, fun hn => by
    obtain ⟨ad, e, hb, hc⟩ := h.2 hn
    exact ⟨ad, e, hb, fun j u hu => (hk _ (by rw [block_of_add]; exact hb)).trans (hc j u hu)⟩⟩
theorem Reads.more (h : Reads w B size A n xs) (hB : B ≤ B') : Reads w B' size A n xs :=
  ⟨h.1, fun hn => by
    obtain ⟨ad, e, hb, hc⟩ := h.2 hn
    exact ⟨ad, e, by omega, hc⟩⟩
theorem Reads.below (h : Reads w B size A n xs) (hb : Below B w w') : Reads w' B size A n xs := h.keep fun _ hp => hb.cell hp
theorem Reads.drew (h : Reads w B size A n xs) : Reads w.drew B size A n xs := h
theorem Reads.drewN (h : Reads w B size A n xs) (k : Nat) : Reads (w.drewN k) B size A n xs := h
theorem Reads.alloc (h : Reads w B size A n xs) (hB : B ≤ w.heap.size) (o : Obj) : Reads (w.alloc o) B size A n xs := h.keep fun p hp => World.cell?_alloc_lt w o p (by omega)
theorem Reads.setCell (h : Reads w B size A n xs) {p : Addr} (hB : B ≤ p.block) (u : Value) : Reads (w.setCell p u) B size A n xs :=
  h.keep fun q hq => World.cell?_setCell_other w p q u (fun e => by subst e; omega)
theorem Reads.grown (h : Reads w B size A n xs) {row : Option Nat} (hg : w.grownBy w' row) (hB : B ≤ w.heap.size) (hr : ∀ g, row = some g → B ≤ g) : Reads w' B size A n xs :=
  h.keep fun p hp => World.cell?_of_block (hg.block p.block (by omega) (fun e => by have := hr _ e.symm; omega))
theorem Reads.cut (h : Reads w B size A n xs) {k cap : Nat} (hk : k ≤ n) (hc : n ≤ cap) :
    Reads w B size (if cap = k then A else A.map (·.add (k * size))) (n - k) (xs.drop (k * size)) := by
  refine ⟨by rw [List.length_drop, h.1, Nat.sub_mul], fun hn => ?_⟩
  obtain ⟨ad, rfl, hb, hcell⟩ := h.2 (by omega)
  rw [if_neg (by omega)]
  refine ⟨ad.add (k * size), rfl, by rw [block_of_add]; exact hb, fun j u hu => ?_⟩
  rw [add_of_add]
  exact hcell _ u (by rw [← hu, List.getElem?_drop])
theorem Reads.of_own {base : Nat} {e : TypeId} {c : Nat} (h : w.ownsRow base e size (.slice A n c) n xs) : Reads w w.heap.size size A n xs := by
  refine ⟨h.1, fun hn => ?_⟩
  obtain ⟨g, cap, hv, _, hlt⟩ := h.form hn
  have hA : A = some ⟨g, 0, none⟩ := by injection hv
  subst hA
  exact ⟨_, rfl, hlt, h.cells (g := g) rfl⟩
/-- Where there is an element, the address is a plain one. -/
theorem Reads.addr (h : Reads w B size A n xs) (hn : 0 < n) (hs : 0 < size) : ∃ b off, A = some ⟨b, off, none⟩ ∧ b < B := by
  obtain ⟨ad, rfl, hb, hc⟩ := h.2 hn
  have hl : 0 < xs.length := by rw [h.1]; exact Nat.mul_pos hn hs
  have h0 := hc 0 _ (List.getElem?_eq_getElem hl)
  obtain ⟨b, off, spot⟩ := ad
  have hspot : spot = none := by simpa [Addr.add] using World.cell?_spot h0
  subst hspot
  exact ⟨b, off, rfl, hb⟩
end

/-- A slice of encoded elements. -/
def Sl {α : Type} (w : World) (B size : Nat) (enc : α → List Value) (A : Option Addr) (l : List α) : Prop := (∀ x, (enc x).length = size) ∧ Reads w B size A l.length (l.flatMap enc)

theorem flatMap_at {α : Type} {enc : α → List Value} {size : Nat} (he : ∀ x, (enc x).length = size) : ∀ (l : List α) (k j : Nat) (hk : k < l.length), j < size → (l.flatMap enc)[k * size + j]? = (enc l[k])[j]?
  | x :: l, 0, j, _, hj => by
    simp only [List.flatMap_cons, Nat.zero_mul, Nat.zero_add, List.getElem_cons_zero]
    rw [List.getElem?_append_left (by rw [he]; exact hj)]
  | x :: l, k + 1, j, hk, hj => by
    simp only [List.flatMap_cons, List.getElem_cons_succ]
    rw [List.getElem?_append_right (by rw [he, Nat.add_mul]; omega), he, show (k + 1) * size + j - size = k * size + j from by rw [Nat.add_mul]; omega]
    exact flatMap_at he l k j (by simpa using hk) hj

section
variable {α : Type} {w w' : World} {B B' size : Nat} {enc : α → List Value} {A : Option Addr} {l : List α}
theorem Sl.addr (h : Sl w B size enc A l) (hn : 0 < l.length) (hs : 0 < size) : ∃ b off, A = some ⟨b, off, none⟩ ∧ b < B := h.2.addr hn hs
/-- The whole element k. -/
theorem Sl.rd_ {b off k : Nat} (h : Sl w B size enc (some ⟨b, off, none⟩) l) (hk : k < l.length) : rd w ⟨b, off + k * size, none⟩ size = some (enc l[k]) := by
  obtain ⟨ad, e, hb, hc⟩ := h.2.2 (by omega)
  injection e with e
  subst e
  refine rd_of_each (h.1 _) (fun i hi => ?_)
  have hv : (enc l[k])[i]? = some ((enc l[k])[i]'(by rw [h.1]; exact hi)) := List.getElem?_eq_getElem _
  have := hc (k * size + i) _ ((flatMap_at h.1 l k i hk hi).trans hv)
  rw [hv, ← this, show (⟨b, off + k * size, none⟩ : Addr) = (⟨b, off, none⟩ : Addr).add (k * size) from by unfold Addr.add; split <;> simp_all, add_of_add]
theorem Sl.keep (h : Sl w B size enc A l) (hk : ∀ p : Addr, p.block < B → w'.cell? p = w.cell? p) : Sl w' B size enc A l := ⟨h.1, h.2.keep hk⟩
theorem Sl.more (h : Sl w B size enc A l) (hB : B ≤ B') : Sl w B' size enc A l := ⟨h.1, h.2.more hB⟩
theorem Sl.below (h : Sl w B size enc A l) (hb : Below B w w') : Sl w' B size enc A l := ⟨h.1, h.2.below hb⟩
theorem Sl.drew (h : Sl w B size enc A l) : Sl w.drew B size enc A l := h
theorem Sl.drewN (h : Sl w B size enc A l) (k : Nat) : Sl (w.drewN k) B size enc A l := h
theorem Sl.alloc (h : Sl w B size enc A l) (hB : B ≤ w.heap.size) (o : Obj) : Sl (w.alloc o) B size enc A l := ⟨h.1, h.2.alloc hB o⟩
theorem Sl.setCell (h : Sl w B size enc A l) {p : Addr} (hB : B ≤ p.block) (u : Value) : Sl (w.setCell p u) B size enc A l := ⟨h.1, h.2.setCell hB u⟩
theorem Sl.grown (h : Sl w B size enc A l) {row : Option Nat} (hg : w.grownBy w' row) (hB : B ≤ w.heap.size) (hr : ∀ g, row = some g → B ≤ g) : Sl w' B size enc A l := ⟨h.1, h.2.grown hg hB hr⟩
end


def Blk (w : World) (g : Nat) (t : TypeId) (cs : Array Value) : Prop := w.heap[g]? = some (.cells cs t (0, 0))

section
variable {w w' : World} {g : Nat} {t : TypeId} {cs : Array Value}
theorem Blk.lt (h : Blk w g t cs) : g < w.heap.size := by
  rcases Nat.lt_or_ge g w.heap.size with hlt | hge
  · exact hlt
  · unfold Blk at h; rw [Array.getElem?_eq_none hge] at h; cases h
theorem Blk.cell (h : Blk w g t cs) (i : Nat) : w.cell? ⟨g, i, none⟩ = cs[i]? := cell_of_row w g i cs t (0, 0) h
theorem Blk.frozen (h : Blk w g t cs) (i : Nat) : w.frozen? ⟨g, i, none⟩ = false := by
  unfold Blk at h
  simp [World.frozen?, h]
theorem Blk.new (w : World) (t : TypeId) (cs : Array Value) : Blk (w.alloc (.cells cs t)) w.heap.size t cs := heap_alloc_new w _
theorem Blk.drew (h : Blk w g t cs) : Blk w.drew g t cs := h
theorem Blk.drewN (h : Blk w g t cs) (n : Nat) : Blk (w.drewN n) g t cs := h
theorem Blk.alloc (h : Blk w g t cs) (o : Obj) : Blk (w.alloc o) g t cs := (Below.heap_alloc w o g h.lt).trans h
theorem Blk.set_ (h : Blk w g t cs) (i : Nat) (u : Value) : Blk (w.setCell ⟨g, i, none⟩ u) g t (cs.setIfInBounds i u) := by
  unfold Blk at h ⊢
  simp [World.setCell, Array.getElem?_modify, h]
theorem Blk.far (h : Blk w g t cs) {p : Addr} (hp : g ≠ p.block) (u : Value) : Blk (w.setCell p u) g t cs := (Below.heap_setCell w p u g hp).trans h
theorem Blk.below {B : Nat} (h : Blk w g t cs) (hb : Below B w w') (hg : g < B) : Blk w' g t cs := (hb.block g hg).trans h
theorem Blk.grown {row : Option Nat} (h : Blk w g t cs) (hb : w.grownBy w' row) (hg : some g ≠ row) : Blk w' g t cs := (hb.block g h.lt hg).trans h
theorem Blk.ne_ {g' : Nat} {t' : TypeId} {cs' : Array Value} (h : Blk w g t cs) (h' : Blk w g' t' cs') (hne : t ≠ t') : g ≠ g' := by
  rintro rfl
  unfold Blk at h h'
  rw [h] at h'
  injection h' with h'
  injection h' with _ ht
  exact hne ht
theorem own_blk_ne {base : Nat} {e : TypeId} {size n : Nat} {v : Value} {xs : List Value} (h : w.ownsRow base e size v n xs) (hg : Blk w g t cs) (hne : e ≠ t) : v.ownBlock ≠ some g := by
  rcases h.2 with ⟨rfl, _⟩ | ⟨g', cap, cur, rfl, _, hh, _⟩
  · simp [Value.ownBlock]
  · intro he
    have : g' = g := by simpa [Value.ownBlock] using he
    subst this
    exact Blk.ne_ (t := e) hh hg hne rfl
end

section
variable {P : Program} (w : World)

theorem run_append_of_nil (base : Nat) (t ty e : TypeId) (i : TypeInfo) (size : Nat) (ht : P.underlying t = some (.slice e)) (hi : P.info? e = some i)
    (v : Value) (n : Nat) (xs : List Value) (hown : w.ownsRow base e size v n xs) (c : Nat) : (Builtin.append_ #[t, t] ty #[v, .slice none 0 c]).run P w = .ok v w := by
  rcases hown.2 with ⟨rfl, rfl⟩ | ⟨g, cap, cur, rfl, _, _, hnc, _⟩
  · simp [Builtin.append_, run_underlying ht, sizeOf, typeInfo, hi, Builtin.lenOf, Builtin.firstCells]
  · simp [Builtin.append_, run_underlying ht, sizeOf, typeInfo, hi, Builtin.lenOf, Builtin.firstCells, hnc, storeCells]

theorem run_append_any (base : Nat) (t ty e : TypeId) (i : TypeInfo) (z : Value) (size bytes : Nat) (ht : P.underlying t = some (.slice e)) (hi : P.info? e = some i) (hz : i.zero = some z)
    (hsize : i.size = size) (hby : i.bytes = bytes) (hzs : z.cells.size = size) (hsz : 0 < size)
    (v : Value) (n : Nat) (xs : List Value) (hown : w.ownsRow base e size v n xs)
    (B : Nat) (A : Option Addr) (m c : Nat) (news : List Value) (hr : Reads w B size A m news) (h1 : ∀ u ∈ news, u.oneCell' = true)
    (h63 : n + m ≤ maxLen) (hbytes : (n + m) * bytes ≤ 140737488355328) (hbase : base ≤ w.heap.size) :
    ∃ v' w', (Builtin.append_ #[t, t] ty #[v, .slice A m c]).run P w = .ok v' w' ∧ w'.ownsRow base e size v' (n + m) (xs ++ news) ∧ w.grownBy w' v.ownBlock ∧
      (v'.ownBlock = v.ownBlock ∨ v'.ownBlock = some w.heap.size) := by
  rcases A with _ | ad
  · have hm : m = 0 := by
      rcases Nat.eq_zero_or_pos m with h0 | h0
      · exact h0
      · obtain ⟨ad, h, _⟩ := hr.2 h0
        cases h
    subst hm
    have hn : news = [] := List.eq_nil_of_length_eq_zero (by simpa using hr.1)
    subst hn
    exact ⟨v, w, run_append_of_nil w base t ty e i size ht hi v n xs hown c, by simpa using hown, World.grownBy.refl w _, .inl rfl⟩
  · have hcells : ∀ j u, news[j]? = some u → w.cell? (ad.add j) = some u := by
      intro j u hu
      rcases Nat.eq_zero_or_pos m with h0 | h0
      · subst h0
        have hn : news = [] := List.eq_nil_of_length_eq_zero (by simpa using hr.1)
        subst hn
        simp at hu
      · obtain ⟨ad', h, _, hc⟩ := hr.2 h0
        injection h with h
        subst h
        exact hc j u hu
    obtain ⟨v', w', hrun, h2, h3, _, h5⟩ := run_append_own_at (P := P) w base t ty e i z size bytes ht hi hz hsize hby hzs hsz v n xs hown ad m c news hr.1 hcells h1 h63 hbytes hbase
    exact ⟨v', w', hrun, h2, h3, h5⟩

theorem wp_append_any {o : Oper} {a : Act} {K : Act → World → Prop} {Q : Exit → Act → World → Prop} (s x : Operand) (t : TypeId)
    (ho : o.op = .call { callee := .builtin .append, args := #[s, x], argTypes := #[t, t] })
    (base : Nat) (e : TypeId) (i : TypeInfo) (z : Value) (size bytes : Nat) (ht : P.underlying t = some (.slice e)) (hi : P.info? e = some i) (hz : i.zero = some z)
    (hsize : i.size = size) (hby : i.bytes = bytes) (hzs : z.cells.size = size) (hsz : 0 < size)
    (v : Value) (n : Nat) (xs : List Value) (hs : a.eval s = v) (hown : w.ownsRow base e size v n xs)
    (B : Nat) (A : Option Addr) (m c : Nat) (news : List Value) (hx : a.eval x = .slice A m c) (hr : Reads w B size A m news) (h1 : ∀ u ∈ news, u.oneCell' = true)
    (h63 : n + m ≤ maxLen) (hbytes : (n + m) * bytes ≤ 140737488355328) (hbase : base ≤ w.heap.size)
    (h : ∀ v' w', w'.ownsRow base e size v' (n + m) (xs ++ news) → w.grownBy w' v.ownBlock → (v'.ownBlock = v.ownBlock ∨ v'.ownBlock = some w.heap.size) → K (a.put o.dst v') w') : o.wp P a w K Q := by
  obtain ⟨v', w', hrun, h2, h3, h4⟩ := run_append_any (P := P) w base t o.type e i z size bytes ht hi hz hsize hby hzs hsz v n xs hown B A m c news hr h1 h63 hbytes hbase
  unfold Oper.wp execOp
  simp only [ho, resolve, invoke, builtin, Sem.run_bind, Sem.run_pure, Result.andThen_ok, List.map_toArray, List.map_cons, List.map_nil, hs, hx, hrun]
  exact h v' w' h2 h3 h4

theorem wpList_append_any {ops : Array Oper} {rest : List Oper} {o : Oper} {a : Act} {Q : Exit → Act → World → Prop} (hgd : o.guard = none) (s x : Operand) (t : TypeId)
    (ho : o.op = .call { callee := .builtin .append, args := #[s, x], argTypes := #[t, t] })
    (base : Nat) (e : TypeId) (i : TypeInfo) (z : Value) (size bytes : Nat) (ht : P.underlying t = some (.slice e)) (hi : P.info? e = some i) (hz : i.zero = some z)
    (hsize : i.size = size) (hby : i.bytes = bytes) (hzs : z.cells.size = size) (hsz : 0 < size)
    (v : Value) (n : Nat) (xs : List Value) (hs : a.eval s = v) (hown : w.ownsRow base e size v n xs)
    (B : Nat) (A : Option Addr) (m c : Nat) (news : List Value) (hx : a.eval x = .slice A m c) (hr : Reads w B size A m news) (h1 : ∀ u ∈ news, u.oneCell' = true)
    (h63 : n + m ≤ maxLen) (hbytes : (n + m) * bytes ≤ 140737488355328) (hbase : base ≤ w.heap.size)
    (h : ∀ v' w', w'.ownsRow base e size v' (n + m) (xs ++ news) → w.grownBy w' v.ownBlock → (v'.ownBlock = v.ownBlock ∨ v'.ownBlock = some w.heap.size) → wpList P ops Q rest (a.put o.dst v') w') : wpList P ops Q (o :: rest) a w :=
  wpList_plain hgd fun _ hK => wp_append_any w s x t ho base e i z size bytes ht hi hz hsize hby hzs hsz v n xs hs hown B A m c news hx hr h1 h63 hbytes hbase fun v' w' h2 h3 h4 => hK _ _ (h v' w' h2 h3 h4)

theorem step_append_any {ops : Array Oper} {o : Oper} {a : Act} {K : Act → World → Prop} {Q : Exit → Act → World → Prop} {E : Prop} (hgd : o.guard = none) (s x : Operand) (t : TypeId)
    (ho : o.op = .call { callee := .builtin .append, args := #[s, x], argTypes := #[t, t] })
    (base : Nat) (e : TypeId) (i : TypeInfo) (z : Value) (size bytes : Nat) (ht : P.underlying t = some (.slice e)) (hi : P.info? e = some i) (hz : i.zero = some z)
    (hsize : i.size = size) (hby : i.bytes = bytes) (hzs : z.cells.size = size) (hsz : 0 < size)
    (v : Value) (n : Nat) (xs : List Value) (hs : a.eval s = v) (hown : w.ownsRow base e size v n xs)
    (B : Nat) (A : Option Addr) (m c : Nat) (news : List Value) (hx : a.eval x = .slice A m c) (hr : Reads w B size A m news) (h1 : ∀ u ∈ news, u.oneCell' = true)
    (h63 : n + m ≤ maxLen) (hbytes : (n + m) * bytes ≤ 140737488355328) (hbase : base ≤ w.heap.size)
    (h : ∀ v' w', w'.ownsRow base e size v' (n + m) (xs ++ news) → w.grownBy w' v.ownBlock → (v'.ownBlock = v.ownBlock ∨ v'.ownBlock = some w.heap.size) → K (a.put o.dst v') w') :
    if Region.wanted o (yielded ops a.tmps) = true then Oper.wp P o a w K Q else E := by
  have hw : Region.wanted o (yielded ops a.tmps) = true := by simp [Region.wanted, hgd]
  rw [if_pos hw]
  exact wp_append_any w s x t ho base e i z size bytes ht hi hz hsize hby hzs hsz v n xs hs hown B A m c news hx hr h1 h63 hbytes hbase h
end

theorem Reads.new {w : World} (cs : Array Value) (e : TypeId) (size n : Nat) (h : cs.size = n * size) : Reads (w.alloc (.cells cs e)) (w.heap.size + 1) size (some ⟨w.heap.size, 0, none⟩) n cs.toList := by
  refine ⟨by simpa using h, fun _ => ⟨_, rfl, by simp, fun j u hu => ?_⟩⟩
  rw [show (⟨w.heap.size, 0, none⟩ : Addr).add j = ⟨w.heap.size, j, none⟩ from by unfold Addr.add; split <;> simp_all]
  rw [(Blk.new w e cs).cell j]
  simpa using hu

/-! A ROW OF THE CALL'S OWN THAT HOLDS ENCODED ELEMENTS. -/
def Own {α : Type} (w : World) (base : Nat) (e : TypeId) (size : Nat) (enc : α → List Value) (v : Value) (l : List α) : Prop := (∀ x, (enc x).length = size) ∧ w.ownsRow base e size v l.length (l.flatMap enc)

/-- An element type, told once. -/
structure Elem (P : Program) (t e : TypeId) (size bytes : Nat) : Prop where
  ht : P.underlying t = some (.slice e)
  info : ∃ i z, P.info? e = some i ∧ i.zero = some z ∧ i.size = size ∧ i.bytes = bytes ∧ z.cells.size = size
  pos : 0 < size
  small : bytes ≤ 1000

section
variable {α : Type} {w w' : World} {base size n : Nat} {e : TypeId} {enc : α → List Value} {v : Value} {l : List α}
theorem Own.form (h : Own w base e size enc v l) : ∃ A c, v = .slice A l.length c ∧ Sl w w.heap.size size enc A l := by
  obtain ⟨h1, h2⟩ := h
  rcases h2.2 with ⟨rfl, hn⟩ | ⟨g, cap, cur, rfl, _⟩
  · have hl : l = [] := List.eq_nil_of_length_eq_zero hn
    subst hl
    exact ⟨none, 0, rfl, h1, Reads.none_⟩
  · exact ⟨_, _, rfl, h1, Reads.of_own h2⟩
theorem Own.sl {A : Option Addr} {c : Nat} (h : Own w base e size enc (.slice A l.length c) l) : Sl w w.heap.size size enc A l := ⟨h.1, Reads.of_own h.2⟩
theorem Own.lt (h : Own w base e size enc v l) : ∀ k, v.ownBlock = some k → base ≤ k ∧ k < w.heap.size := h.2.lt
theorem Own.nil (w : World) (base : Nat) (e : TypeId) (he : ∀ x : α, (enc x).length = size) : Own w base e size enc (.slice none 0 0) [] := ⟨he, World.ownsRow_nil _ _ _ _⟩
theorem Own.drew (h : Own w base e size enc v l) : Own w.drew base e size enc v l := h
theorem Own.drewN (h : Own w base e size enc v l) (k : Nat) : Own (w.drewN k) base e size enc v l := h
theorem Own.alloc (h : Own w base e size enc v l) (o : Obj) : Own (w.alloc o) base e size enc v l := ⟨h.1, h.2.alloc o⟩
theorem Own.kept (h : Own w base e size enc v l) (hk : ∀ k, v.ownBlock = some k → w'.heap[k]? = w.heap[k]?) : Own w' base e size enc v l := by
  refine ⟨h.1, h.2.1, ?_⟩
  rcases h.2.2 with hn | ⟨g, cap, cur, rfl, hb, hh, hx⟩
  · exact .inl hn
  · exact .inr ⟨g, cap, cur, rfl, hb, (hk g rfl).trans hh, hx⟩
theorem Own.below {B : Nat} (h : Own w base e size enc v l) (hb : Below B w w') (hB : w.heap.size ≤ B) : Own w' base e size enc v l :=
  h.kept fun k hk => hb.block k (Nat.lt_of_lt_of_le (h.lt k hk).2 hB)
theorem Own.grown {row : Option Nat} (h : Own w base e size enc v l) (hg : w.grownBy w' row) (hr : v.ownBlock = row → row = none) : Own w' base e size enc v l :=
  h.kept fun k hk => hg.block k (h.lt k hk).2 (fun e => by have := hr (hk.trans e); rw [this] at e; cases e)
theorem Own.base_le {base' : Nat} (h : Own w base e size enc v l) (hb : base' ≤ base) : Own w base' e size enc v l := by
  refine ⟨h.1, h.2.1, ?_⟩
  rcases h.2.2 with hn | ⟨g, cap, cur, rfl, hg, hx⟩
  · exact .inl hn
  · exact .inr ⟨g, cap, cur, rfl, by omega, hx⟩
/-- Behind an append onto it, what lay below the base lies as it lay. -/
theorem Own.below_grown {w0 : World} {B : Nat} (h : Own w base e size enc v l) (hb : Below B w0 w) (hg : w.grownBy w' v.ownBlock) (hB : B ≤ base) (hz : B ≤ w.heap.size) : Below B w0 w' :=
  hb.grown hg hz (fun k hk => Nat.le_trans hB (h.lt k hk).1)
end

section
variable {α : Type} {P : Program}
/-- append(s, x...), s a row of the call's own, x whatever reads as elements. -/
theorem wpList_append_sl {w : World} {ops : Array Oper} {rest : List Oper} {o : Oper} {a : Act} {Q : Exit → Act → World → Prop} (hgd : o.guard = none) (s x : Operand) (t : TypeId)
    (ho : o.op = .call { callee := .builtin .append, args := #[s, x], argTypes := #[t, t] })
    {e : TypeId} {size bytes : Nat} (E : Elem P t e size bytes) (base : Nat) (enc : α → List Value) (h1 : ∀ x, ∀ u ∈ enc x, u.oneCell' = true)
    (v : Value) (l : List α) (nl : Nat) (hnl : l.length = nl) (hs : a.eval s = v) (hown : Own w base e size enc v l)
    (B : Nat) (A : Option Addr) (n c : Nat) (m : List α) (hx : a.eval x = .slice A n c) (hn : m.length = n) (hr : Sl w B size enc A m)
    (hlen : nl + n ≤ 2000000000) (hbase : base ≤ w.heap.size)
    (h : ∀ A' c' w', Own w' base e size enc (.slice A' (nl + n) c') (l ++ m) → w.grownBy w' v.ownBlock → ((Value.slice A' (nl + n) c').ownBlock = v.ownBlock ∨ (Value.slice A' (nl + n) c').ownBlock = some w.heap.size) →
      wpList P ops Q rest (a.put o.dst (.slice A' (nl + n) c')) w') : wpList P ops Q (o :: rest) a w := by
  subst hn
  subst hnl
  obtain ⟨i, z, hi, hz, hsz, hby, hzs⟩ := E.info
  refine wpList_append_any w hgd s x t ho base e i z size bytes E.ht hi hz hsz hby hzs E.pos v l.length (l.flatMap enc) hs hown.2 B A m.length c (m.flatMap enc) hx hr.2 (fun u hu => ?_) (by unfold maxLen; omega) ?_ hbase ?_
  · obtain ⟨y, _, hy⟩ := List.mem_flatMap.1 hu
    exact h1 y u hy
  · have := Nat.mul_le_mul hlen E.small
    omega
  · intro v' w' h2 h3 h4
    have h5 : Own w' base e size enc v' (l ++ m) := ⟨hown.1, by rw [List.length_append, List.flatMap_append]; exact h2⟩
    obtain ⟨A', c', hv, _⟩ := h5.form
    rw [List.length_append] at hv
    subst hv
    exact h A' c' w' h5 h3 h4
end

theorem le_alloc {n : Nat} {w : World} (h : n ≤ w.heap.size) (o : Obj) : n ≤ (w.alloc o).heap.size := by simp; omega

section
variable {α : Type} {P : Program}
/-- make([]T, 0, n). -/
theorem wpList_make_sl {w : World} {ops : Array Oper} {rest : List Oper} {o : Oper} {a : Act} {Q : Exit → Act → World → Prop} (hgd : o.guard = none) (x y : Operand) (t : TypeId) (hop : o.op = Op.makeSlice t x y)
    {e : TypeId} {size bytes : Nat} (E : Elem P t e size bytes) (base : Nat) (enc : α → List Value) (henc : ∀ x, (enc x).length = size) (kl kc : IntKind) (C : Int) (n : Nat) (hl : a.eval x = .int kl 0) (hc : a.eval y = .int kc C) (hC : C = (n : Int))
    (hn : n ≤ 2000000000) (hbase : base ≤ w.heap.size)
    (h : ∀ w', Own w' base e size enc (.slice (some ⟨w.heap.size, 0, none⟩) 0 n) [] → w.grownBy w' none → wpList P ops Q rest (a.put o.dst (.slice (some ⟨w.heap.size, 0, none⟩) 0 n)) w') : wpList P ops Q (o :: rest) a w := by
  obtain ⟨i, z, hi, hz, hsz, hby, hzs⟩ := E.info
  refine wpList_make_own w hgd x y t hop base e i z size E.ht hi hz hsz kl kc C n hl hc hC ?_ (by unfold maxLen; omega) hbase fun w' h2 h3 => h w' ⟨henc, h2⟩ h3
  have := Nat.mul_le_mul E.small hn
  rw [hby]; omega
end

/-- What a call gives that answers a new slice of elements and leaves all old memory as it was. -/
def GivesSl {α : Type} (e : TypeId) (size : Nat) (enc : α → List Value) (w : World) (l : List α) (en : Ending) (w' : World) : Prop :=
  ∃ A c, en = .returned (.slice A l.length c) ∧ Own w' w.heap.size e size enc (.slice A l.length c) l ∧ Below w.heap.size w w'
theorem cell_new (w : World) (cs : Array Value) (e : TypeId) (i : Nat) : (w.alloc (.cells cs e)).cell? ⟨w.heap.size, i, none⟩ = cs[i]? := (Blk.new w e cs).cell i


theorem Sl.cell_ {α : Type} {w : World} {B size : Nat} {enc : α → List Value} {l : List α} {b off k : Nat} (h : Sl w B size enc (some ⟨b, off, none⟩) l) (hk : k < l.length) (j : Nat) (hj : j < size) :
    w.cell? ⟨b, off + k * size + j, none⟩ = (enc l[k])[j]? := by
  have := (rd_cell (h.rd_ hk)).2 j hj
  rw [← this]
  congr 1
  unfold Addr.add; split <;> simp_all
theorem Sl.cell1 {α : Type} {w : World} {B : Nat} {enc : α → List Value} {l : List α} {b off k : Nat} (h : Sl w B 1 enc (some ⟨b, off, none⟩) l) (hk : k < l.length) :
    w.cell? ⟨b, off + k, none⟩ = (enc l[k])[0]? := by
  have := h.cell_ hk 0 (by omega)
  simpa using this
theorem Sl.new {α : Type} (w : World) (enc : α → List Value) (size : Nat) (henc : ∀ x, (enc x).length = size) (e : TypeId) (x : α) : Sl (w.alloc (.cells (enc x).toArray e)) (w.heap.size + 1) size enc (some ⟨w.heap.size, 0, none⟩) [x] :=
  ⟨henc, by
    have := Reads.new (w := w) (enc x).toArray e size 1 (by simp [henc])
    simpa using this⟩


theorem GivesSl.of {α : Type} {e : TypeId} {size : Nat} {enc : α → List Value} {w w' : World} {l : List α} {en : Ending} {A : Option Addr} {n c : Nat} (hn : l.length = n) (h1 : en = .returned (.slice A n c))
    (h2 : Own w' w.heap.size e size enc (.slice A n c) l) (h3 : Below w.heap.size w w') : GivesSl e size enc w l en w' := by
  subst hn; exact ⟨A, c, h1, h2, h3⟩


theorem Own.empty {α : Type} {base size : Nat} {enc : α → List Value} (w : World) (e : TypeId) (henc : ∀ x, (enc x).length = size) (hb : base ≤ w.heap.size) :
    Own (w.alloc (.cells #[] e)) base e size enc (.slice (some ⟨w.heap.size, 0, none⟩) 0 0) [] :=
  ⟨henc, World.ownsRow_made w #[] 0 hb (by unfold maxLen; omega) (by simp)⟩


/-! A RESLICE, BY ONE OPERATION: whatever the address is. -/
def cutA (A : Option Addr) (M l sz : Nat) : Option Addr := if M = l then A else A.map (·.add (l * sz))
def cutLo : Option Value → Int
  | none => 0
  | some (.int _ l) => l
  | _ => -1
def origSlice (P : Program) (T : TypeId) (w : World) (x : Value) (lo hi mx : Option Value) : Result Next := ((do pure (Next.value (← Instr.sliceAt T x lo hi mx)) : Sem Next)).run P w
def cutRes (P : Program) (T : TypeId) (sz : Nat) (w : World) : Value → Option Value → Option Value → Option Value → Result Next
  | .slice A n c, lo, none, none => if 0 ≤ cutLo lo ∧ cutLo lo ≤ (n : Int) then .ok (.value (.slice (cutA A c (cutLo lo).toNat sz) (n - (cutLo lo).toNat) (c - (cutLo lo).toNat))) w else origSlice P T w (.slice A n c) lo none none
  | .slice A n c, lo, some (.int k h), none => if 0 ≤ cutLo lo ∧ cutLo lo ≤ h ∧ h ≤ (c : Int) then .ok (.value (.slice (cutA A c (cutLo lo).toNat sz) (h.toNat - (cutLo lo).toNat) (c - (cutLo lo).toNat))) w else origSlice P T w (.slice A n c) lo (some (.int k h)) none
  | .slice A n c, lo, some (.int k h), some (.int k' m) => if 0 ≤ cutLo lo ∧ cutLo lo ≤ h ∧ h ≤ m ∧ m ≤ (c : Int) then .ok (.value (.slice (cutA A m.toNat (cutLo lo).toNat sz) (h.toNat - (cutLo lo).toNat) (m.toNat - (cutLo lo).toNat))) w else origSlice P T w (.slice A n c) lo (some (.int k h)) (some (.int k' m))
  | x, lo, hi, mx => origSlice P T w x lo hi mx

theorem sliceBound_in {P : Program} (w : World) (k : IntKind) (i : Int) (y : Nat) (code : BoundsCode) (h0 : 0 ≤ i) (h1 : i ≤ y) : (Instr.sliceBound (.int k i) y code).run P w = .ok i.toNat w := run_sliceBound w k i y code h0 h1

theorem run_slice_op {P : Program} (T e : TypeId) (sz : Nat) (hT : P.underlying T = some (.slice e)) (hsz : ∀ w, (sizeOf e).run P w = .ok sz w) (w : World) (ρ : Operand → Value) (x : Operand) (lo hi mx : Option Operand)
    (d : Option Tmp) (ty : TypeId) (pos : String) (af : Array _) (g : Option _) : (execOp ρ ⟨d, .slice T x lo hi mx, ty, pos, af, g⟩).run P w = cutRes P T sz w (ρ x) (lo.map ρ) (hi.map ρ) (mx.map ρ) := by
  have horig : (execOp ρ ⟨d, .slice T x lo hi mx, ty, pos, af, g⟩).run P w = origSlice P T w (ρ x) (lo.map ρ) (hi.map ρ) (mx.map ρ) := rfl
  rw [horig]
  generalize ρ x = X
  generalize lo.map ρ = LO
  generalize hi.map ρ = HI
  generalize mx.map ρ = MX
  have key : ∀ (A : Option Addr) (n c : Nat) (l h m : Nat), (Instr.sliceBounds true n c LO HI MX).run P w = .ok (l, h, m) w →
      origSlice P T w (.slice A n c) LO HI MX = .ok (.value (.slice (cutA A m l sz) (h - l) (m - l))) w := by
    intro A n c l h m hb
    unfold origSlice Instr.sliceAt Instr.slice
    simp only [Sem.run_bind, run_underlying hT, Result.andThen_ok, hb, hsz, Sem.run_pure]
    rfl
  have lob : ∀ (y : Nat) (code : BoundsCode), 0 ≤ cutLo LO → cutLo LO ≤ y → ∀ v, LO = some v → (Instr.sliceBound v y code).run P w = .ok (cutLo LO).toNat w := by
    intro y code h0 h1 v hv
    subst hv
    cases v <;> simp only [cutLo] at h0 h1 ⊢ <;> first | exact sliceBound_in w _ _ y code h0 h1 | omega
  unfold cutRes
  split
  · split
    · rename_i A n c hc
      refine key A n c _ _ _ ?_
      unfold Instr.sliceBounds
      cases hlo : LO with
      | none => simp [cutLo]
      | some v =>
        have := fun code => lob n code hc.1 hc.2 v hlo
        rw [hlo] at this
        simp [this]
    · rfl
  · split
    · rename_i A n c k h hc
      refine key A n c _ _ _ ?_
      have h1 := fun code => sliceBound_in (P := P) w k h c code (by omega) hc.2.2
      unfold Instr.sliceBounds
      cases hlo : LO with
      | none => simp [cutLo, h1]
      | some v =>
        have h0 : cutLo LO ≤ ((h.toNat : Nat) : Int) := by omega
        have := fun code => lob h.toNat code hc.1 h0 v hlo
        rw [hlo] at this
        simp [this, h1]
    · rfl
  · split
    · rename_i A n c k h k' m hc
      refine key A n c _ _ _ ?_
      have h2 := fun code => sliceBound_in (P := P) w k' m c code (by omega) hc.2.2.2
      have h3 : h ≤ ((m.toNat : Nat) : Int) := by omega
      have h1 := fun code => sliceBound_in (P := P) w k h m.toNat code (by omega) h3
      unfold Instr.sliceBounds
      cases hlo : LO with
      | none => simp [cutLo, h1, h2]
      | some v =>
        have h0 : cutLo LO ≤ ((h.toNat : Nat) : Int) := by omega
        have := fun code => lob h.toNat code hc.1 h0 v hlo
        rw [hlo] at this
        simp [this, h1, h2]
    · rfl
  · rfl

section
variable (P : Program) (T : TypeId) (sz : Nat) (w : World) (A : Option Addr) (n c : Nat) (k k' k'' : IntKind) (l h m : Int)
theorem cutRes_lo : cutRes P T sz w (.slice A n c) (some (.int k l)) none none = if 0 ≤ l ∧ l ≤ (n : Int) then .ok (.value (.slice (cutA A c l.toNat sz) (n - l.toNat) (c - l.toNat))) w else origSlice P T w (.slice A n c) (some (.int k l)) none none := rfl
theorem cutRes_hi : cutRes P T sz w (.slice A n c) none (some (.int k h)) none = if 0 ≤ h ∧ h ≤ (c : Int) then .ok (.value (.slice (cutA A c 0 sz) h.toNat c)) w else origSlice P T w (.slice A n c) none (some (.int k h)) none := by
  simp [cutRes, cutLo]
theorem cutRes_lohi : cutRes P T sz w (.slice A n c) (some (.int k l)) (some (.int k' h)) none = if 0 ≤ l ∧ l ≤ h ∧ h ≤ (c : Int) then .ok (.value (.slice (cutA A c l.toNat sz) (h.toNat - l.toNat) (c - l.toNat))) w else origSlice P T w (.slice A n c) (some (.int k l)) (some (.int k' h)) none := rfl
theorem cutRes_lohimx : cutRes P T sz w (.slice A n c) (some (.int k l)) (some (.int k' h)) (some (.int k'' m)) =
    if 0 ≤ l ∧ l ≤ h ∧ h ≤ m ∧ m ≤ (c : Int) then .ok (.value (.slice (cutA A m.toNat l.toNat sz) (h.toNat - l.toNat) (m.toNat - l.toNat))) w else origSlice P T w (.slice A n c) (some (.int k l)) (some (.int k' h)) (some (.int k'' m)) := rfl
theorem cutRes_all : cutRes P T sz w (.slice A n c) none none none = .ok (.value (.slice (cutA A c 0 sz) n c)) w := by simp [cutRes, cutLo]
end
theorem cutA_zero (A : Option Addr) (c sz : Nat) : cutA A c 0 sz = A := by
  unfold cutA
  split
  · rfl
  · cases A <;> simp [Addr.add]
theorem Sl.cutA {α : Type} {w : World} {B size : Nat} {enc : α → List Value} {A : Option Addr} {l : List α} (h : Sl w B size enc A l) {lo hi M : Nat} (h1 : lo ≤ hi) (h2 : hi ≤ l.length) (h3 : hi ≤ M) :
    Sl w B size enc (cutA A M lo size) ((l.take hi).drop lo) := by
  refine ⟨h.1, ?_, fun hn => ?_⟩
  · have : ∀ m : List α, (m.flatMap enc).length = m.length * size := by
      intro m
      induction m with
      | nil => simp
      | cons x m ih => simp [List.flatMap_cons, ih, h.1, Nat.add_mul, Nat.add_comm]
    exact this _
  · simp only [List.length_drop, List.length_take] at hn
    obtain ⟨ad, rfl, hb, hc⟩ := h.2.2 (by omega)
    unfold Go.Proofs.YtijpdbjcmnpobaaDoor.cutA
    rw [if_neg (by omega)]
    refine ⟨_, rfl, by rw [block_of_add]; exact hb, fun j u hu => ?_⟩
    rw [add_of_add]
    refine hc _ u ?_
    by_cases hs : size = 0
    · have : ∀ m : List α, m.flatMap enc = [] := by
        intro m
        induction m with
        | nil => rfl
        | cons x m ih =>
          have : enc x = [] := List.eq_nil_of_length_eq_zero (by rw [h.1, hs])
          simp [List.flatMap_cons, ih, this]
      rw [this] at hu; simp at hu
    · have hj : j < ((l.take hi).drop lo).length * size := by
        have hfl : ∀ m : List α, (m.flatMap enc).length = m.length * size := by
          intro m
          induction m with
          | nil => simp
          | cons x m ih => simp [List.flatMap_cons, ih, h.1, Nat.add_mul, Nat.add_comm]
        rcases Nat.lt_or_ge j (((l.take hi).drop lo).flatMap enc).length with hlt | hge
        · rw [hfl] at hlt; exact hlt
        · rw [List.getElem?_eq_none hge] at hu; cases hu
      have hjd : j / size < ((l.take hi).drop lo).length := (Nat.div_lt_iff_lt_mul (by omega)).2 hj
      have hjm : j % size < size := Nat.mod_lt _ (by omega)
      have e1 : j = j / size * size + j % size := by rw [Nat.mul_comm]; exact (Nat.div_add_mod j size).symm
      rw [e1] at hu ⊢
      rw [flatMap_at h.1 _ _ _ hjd hjm] at hu
      rw [show lo * size + (j / size * size + j % size) = (lo + j / size) * size + j % size from by rw [Nat.add_mul]; omega]
      have hd : j / size < min hi l.length - lo := by simpa using hjd
      rw [flatMap_at h.1 l _ _ (by omega) hjm]
      simpa using hu


/-! A WHOLE AGGREGATE, STORED INTO A ROW OF ITS OWN BY ONE OPERATION. -/
def rowSz (w : World) (g : Nat) : Option Nat :=
  match w.heap[g]? with
  | some (.cells cur _ (0, 0)) => some cur.size
  | _ => none
def origStore (P : Program) (T : TypeId) (w : World) (p x : Value) : Result Next := ((do Instr.storeAt T p x; pure Next.skip) : Sem Next).run P w
def aggStore (P : Program) (T : TypeId) (sz : Nat) (w : World) (p x : Value) : Result Next :=
  match p, x with
  | .pointer (some ⟨g, 0, none⟩), .agg cs => if rowSz w g = some sz ∧ cs.size = sz ∧ cs.all (·.oneCell') = true then .ok .skip (w.setRow g cs) else origStore P T w (.pointer (some ⟨g, 0, none⟩)) (.agg cs)
  | p, x => origStore P T w p x
theorem rowSz_some {w : World} {g n : Nat} (h : rowSz w g = some n) : ∃ cur t, w.heap[g]? = some (.cells cur t (0, 0)) ∧ cur.size = n := by
  unfold rowSz at h
  split at h
  · rename_i cur t he
    injection h with h
    exact ⟨cur, t, he, h⟩
  · cases h
theorem rowSz_of {w : World} {g : Nat} {t : TypeId} {cs : Array Value} (h : Blk w g t cs) : rowSz w g = some cs.size := by
  unfold Blk at h
  unfold rowSz
  rw [h]
  rfl
theorem run_store_agg {P : Program} (T : TypeId) (sz : Nat) (hsz : (P.info? T).map (·.size) = some sz) (w : World) (ρ : Operand → Value) (p x : Operand)
    (d : Option Tmp) (ty : TypeId) (pos : String) (af : Array _) (g : Option _) : (execOp ρ ⟨d, .store T p x, ty, pos, af, g⟩).run P w = aggStore P T sz w (ρ p) (ρ x) := by
  have horig : (execOp ρ ⟨d, .store T p x, ty, pos, af, g⟩).run P w = origStore P T w (ρ p) (ρ x) := rfl
  rw [horig]
  unfold aggStore
  split
  · split
    · rename_i g cs hq hx hc
      obtain ⟨cur, t, he, hs⟩ := rowSz_some hc.1
      have := run_storeVar_row (P := P) w g t T cur cs he (by rw [hsz, hc.2.1]) (by rw [hs, hc.2.1]) hc.2.2
      rw [hq, hx]
      unfold origStore Instr.storeAt
      simp only [Instr.sureAddr, Sem.run_bind, Sem.run_pure, Result.andThen_ok, this]
    · rename_i g cs hq hx _
      rw [hq, hx]
  · rfl
theorem aggStore_row (P : Program) (T : TypeId) (sz : Nat) (w : World) (g : Nat) (cs : Array Value) : aggStore P T sz w (.pointer (some ⟨g, 0, none⟩)) (.agg cs) =
    if rowSz w g = some sz ∧ cs.size = sz ∧ cs.all (·.oneCell') = true then .ok .skip (w.setRow g cs) else origStore P T w (.pointer (some ⟨g, 0, none⟩)) (.agg cs) := rfl
theorem one_int (k : IntKind) (n : Int) : (Value.int k n).oneCell' = true := rfl
theorem one_bool (b : Bool) : (Value.bool b).oneCell' = true := rfl
theorem one_slice (a : Option Addr) (n c : Nat) : (Value.slice a n c).oneCell' = true := rfl
theorem one_pointer (a : Option Addr) : (Value.pointer a).oneCell' = true := rfl
theorem one_string (s : ByteArray) : (Value.string s).oneCell' = true := rfl
theorem rowSz_new (w : World) (cs : Array Value) (t : TypeId) : rowSz (w.alloc (.cells cs t)) w.heap.size = some cs.size := rowSz_of (Blk.new w t cs)
theorem Blk.setRow {w : World} {g : Nat} {t : TypeId} {cs : Array Value} (h : Blk w g t cs) (cs' : Array Value) : Blk (w.setRow g cs') g t cs' := setRow_heap w g cs cs' t (0, 0) h
theorem heap_setRow_other (w : World) (g : Nat) (cs : Array Value) (k : Nat) (h : k ≠ g) : (w.setRow g cs).heap[k]? = w.heap[k]? := by
  simp only [World.setRow, Array.getElem?_modify]
  rw [if_neg (by omega)]
theorem below_drewN {B : Nat} {a w : World} (h : Below B a w) (n : Nat) : Below B a (w.drewN n) := ⟨h.os, h.tape, h.output, h.size, h.block⟩
theorem below_of_drewN {B : Nat} {a w : World} {n : Nat} (h : Below B (a.drewN n) w) : Below B a w := ⟨h.os, h.tape, h.output, h.size, h.block⟩
theorem bel_setRow {B : Nat} {a w : World} (h : Below B a w) {g : Nat} (hg : B ≤ g) (cs : Array Value) : Below B a (w.setRow g cs) :=
  h.trans ⟨rfl, rfl, rfl, by simp, fun k hk => heap_setRow_other _ _ _ _ (by omega)⟩
theorem Blk.setRow_far {w : World} {g g' : Nat} {t : TypeId} {cs : Array Value} (h : Blk w g t cs) (hne : g ≠ g') (cs' : Array Value) : Blk (w.setRow g' cs') g t cs := (heap_setRow_other w g' cs' g hne).trans h
theorem Own.setRow_far {α : Type} {w : World} {base size : Nat} {e : TypeId} {enc : α → List Value} {v : Value} {l : List α} (h : Own w base e size enc v l) {g : Nat} (hne : v.ownBlock ≠ some g) (cs : Array Value) : Own (w.setRow g cs) base e size enc v l :=
  h.kept fun k hk => heap_setRow_other w g cs k (fun e => hne (by rw [hk, e]))
/-- Two rows of different element types are two blocks. -/
theorem Own.ne_blk {α : Type} {w : World} {base size : Nat} {e : TypeId} {enc : α → List Value} {v : Value} {l : List α} (h : Own w base e size enc v l) {g : Nat} {t : TypeId} {cs : Array Value} (hg : Blk w g t cs) (hne : e ≠ t) : v.ownBlock ≠ some g := own_blk_ne h.2 hg hne
theorem Blk.rd_ {w : World} {g : Nat} {t : TypeId} {cs : Array Value} (h : Blk w g t cs) : rd w ⟨g, 0, none⟩ cs.size = some cs.toList := by
  refine rd_of_each (by simp) fun i hi => ?_
  rw [show (⟨g, 0, none⟩ : Addr).add i = ⟨g, i, none⟩ from by unfold Addr.add; split <;> simp_all, h.cell i]
  simp

theorem run_loadVar_rd {P : Program} (T : TypeId) (hagg : ∀ w, (isAgg T).run P w = .ok true w) (sz : Nat) (hsz : ∀ w, (sizeOf T).run P w = .ok sz w) (w : World) (a : Addr) (cs : List Value) (h : rd w a sz = some cs) :
    (loadVar T a).run P w = .ok (.agg cs.toArray) w := by
  have := run_loadAt_rd T hagg sz hsz w a (by rw [h]; rfl)
  rw [h] at this
  simpa only [Instr.loadAt, Instr.sureAddr, Sem.run_bind, Sem.run_pure, Result.andThen_ok, Option.getD_some] using this
/-- Two results, the first one in a cell of its own. -/
theorem results_cell_tmp2 {P : Program} {fn : Func} {p q : Tmp} {T : TypeId} (h : fn.results = #[.cell p T, .tmp q]) (hagg : ∀ w, (isAgg T).run P w = .ok true w) (sz : Nat) (hsz : ∀ w, (sizeOf T).run P w = .ok sz w) (tmps : Array Value) (w : World) (a : Addr) (cs : List Value)
    (hp : tmps.getD p undef = .pointer (some a)) (hr : rd w a sz = some cs) : (results fn tmps).run P w = .ok (.tuple #[.agg cs.toArray, tmps.getD q undef]) w := by
  have hp' : tmps[p]?.getD undef = .pointer (some a) := by simpa using hp
  simp [results, h, hp', asAddr, run_loadVar_rd T hagg sz hsz w a cs hr]
theorem results_cell1 {P : Program} {fn : Func} {p : Tmp} {T : TypeId} (h : fn.results = #[.cell p T]) (hagg : ∀ w, (isAgg T).run P w = .ok true w) (sz : Nat) (hsz : ∀ w, (sizeOf T).run P w = .ok sz w) (tmps : Array Value) (w : World) (a : Addr) (cs : List Value)
    (hp : tmps.getD p undef = .pointer (some a)) (hr : rd w a sz = some cs) : (results fn tmps).run P w = .ok (.agg cs.toArray) w := by
  have hp' : tmps[p]?.getD undef = .pointer (some a) := by simpa using hp
  simp [results, h, hp', asAddr, run_loadVar_rd T hagg sz hsz w a cs hr]


theorem Own.cap {α : Type} {w : World} {base size : Nat} {e : TypeId} {enc : α → List Value} {l : List α} {A : Option Addr} {n c : Nat} (h : Own w base e size enc (.slice A n c) l) : n ≤ c ∧ l.length = n := by
  rcases h.2.2 with ⟨hv, hn⟩ | ⟨g, cap, cur, hv, _, _, hc, _⟩
  · injection hv with _ h1 h2; omega
  · injection hv with _ h1 h2; omega
theorem Own.sl' {α : Type} {w : World} {base size : Nat} {e : TypeId} {enc : α → List Value} {l : List α} {A : Option Addr} {n c : Nat} (h : Own w base e size enc (.slice A n c) l) : Sl w w.heap.size size enc A l := by
  obtain rfl := h.cap.2
  exact h.sl
/-- A slice literal's block. -/
theorem Sl.newl {α : Type} (w : World) (enc : α → List Value) (size : Nat) (henc : ∀ x, (enc x).length = size) (e : TypeId) (l : List α) (cs : Array Value) (hcs : cs.toList = l.flatMap enc) : Sl (w.alloc (.cells cs e)) (w.heap.size + 1) size enc (some ⟨w.heap.size, 0, none⟩) l := by
  refine ⟨henc, ?_⟩
  have hl : ∀ m : List α, (m.flatMap enc).length = m.length * size := by
    intro m
    induction m with
    | nil => simp
    | cons x m ih => simp [List.flatMap_cons, ih, henc, Nat.add_mul, Nat.add_comm]
  have := Reads.new (w := w) cs e size l.length (by rw [← hl, ← hcs]; simp)
  rw [hcs] at this
  exact this


def pairC (p : Int × Int) : List Value := [.int .i64 p.1, .int .i64 p.2]
def boolC (b : Bool) : List Value := [.bool b]
def intC (x : Int) : List Value := [.int .i64 x]
theorem pair_len (p : Int × Int) : (pairC p).length = 2 := rfl
theorem bool_len (b : Bool) : (boolC b).length = 1 := rfl
theorem int_len (x : Int) : (intC x).length = 1 := rfl


theorem quiet_add {P : Program} {f : FuncId} {args : Array Value} {w : World} {a n : Nat} {v : Value}
    (h : Calls P f args (w.drewN (a + n)) fun e w' => e = .returned v ∧ ∃ m, w' = (w.drewN (a + n)).drewN m) :
    Calls P f args (w.drewN (a + n)) fun e w'' => e = .returned v ∧ ∃ m, w'' = w.drewN (a + m) :=
  h.mono fun _ _ ⟨he, m, hm⟩ => ⟨he, n + m, by rw [hm, World.drewN_drewN, Nat.add_assoc]⟩
theorem quiet_add_same {P : Program} {f : FuncId} {args : Array Value} {w : World} {a n : Nat} {v : Value}
    (h : Calls P f args (w.drewN (a + n)) fun e w' => e = .returned v ∧ w' = w.drewN (a + n)) :
    Calls P f args (w.drewN (a + n)) fun e w'' => e = .returned v ∧ ∃ m, w'' = w.drewN (a + m) :=
  h.mono fun _ _ ⟨he, hm⟩ => ⟨he, n, hm⟩
theorem quiet_add_left {P : Program} {f : FuncId} {args : Array Value} {w : World} {a n : Nat} {v : Value}
    (h : Calls P f args (w.drewN (a + n)) fun e w' => e = .returned v ∧ w.drewN (a + n) = w') :
    Calls P f args (w.drewN (a + n)) fun e w'' => e = .returned v ∧ ∃ m, w'' = w.drewN (a + m) :=
  h.mono fun _ _ ⟨he, hm⟩ => ⟨he, n, hm.symm⟩
theorem quiet_left {P : Program} {f : FuncId} {args : Array Value} {w : World} {n : Nat} {v : Value}
    (h : Calls P f args (w.drewN n) fun e w' => e = .returned v ∧ w.drewN n = w') : Calls P f args (w.drewN n) fun e w'' => e = .returned v ∧ ∃ m, w'' = w.drewN m :=
  h.mono fun _ _ ⟨he, hm⟩ => ⟨he, n, hm.symm⟩


theorem cell_setRow_far (w : World) (g : Nat) (cs : Array Value) (b o : Nat) (h : b ≠ g) : (w.setRow g cs).cell? ⟨b, o, none⟩ = w.cell? ⟨b, o, none⟩ :=
  World.cell?_of_block (heap_setRow_other w g cs b h)
theorem wrap_ok (x : Int) (h1 : -9223372036854775808 ≤ x) (h2 : x ≤ 9223372036854775807) : IntKind.i64.wrap x = x := by rw [IntKind.wrap_i64]; omega

theorem info_some {P : Program} {e : TypeId} {z : Value} {n b : Nat} (h : (P.info? e).map (fun i => (i.zero, i.size, i.bytes)) = some (some z, n, b)) (hz : z.cells.size = n) :
    ∃ i z, P.info? e = some i ∧ i.zero = some z ∧ i.size = n ∧ i.bytes = b ∧ z.cells.size = n := by
  obtain ⟨i, h1, h2, h3, h4⟩ := info_parts h
  exact ⟨i, z, h1, h2, h3, h4, hz⟩
end Go.Proofs.YtijpdbjcmnpobaaDoor
