/-
  Values as a reader thinks of them, and what it means that a world bears them. Plain lemmas, no program in sight.
-/
import Derived.Test.YtijpdbjcmnpobaaDoorHg
namespace Go.Proofs.YtijpdbjcmnpobaaDoor
set_option linter.unusedSimpArgs false
set_option linter.unusedVariables false
open Go.RowKit

/-- A value, read: what is frozen is read whole; what the call owns is a name. -/
inductive HV where
  | imm (v : Value)
  | agg (n : Nat) (f : Nat → HV)
  | tup (n : Nat) (f : Nat → HV)
  | sl (sz n : Nat) (f : Nat → Nat → HV)
  | fp (n : Nat) (f : Nat → HV)
  | pt (id g i off : Nat)
  | os (id g lo n : Nat)
  | ifc (t : TypeId) (v : HV)
  | fn (f : Fn) (n : Nat) (caps : Nat → HV)
  | nps (id g : Nat)
  | bnd (f : Fn) (x : HV)

instance : Inhabited HV := ⟨.imm undef⟩
/-- Where an object of the call's own lies. -/
structure Loc where
  g : Nat
  A : Option Nat
  cap : Nat
  sz : Nat
structure Env where
  F : Addr → Prop
  L : Nat → Option Loc
  G : Nat → Prop

/-- The world bears the value. -/
inductive Rep (w : World) (E : Env) : Value → HV → Prop
  | imm (v : Value) : Rep w E v (.imm v)
  | agg (cs : Array Value) (n : Nat) (f : Nat → HV) (vs : Nat → Value) (hn : cs.size = n) (hv : ∀ i, i < n → cs[i]? = some (vs i) ∧ (vs i).oneCell' = true)
      (h : ∀ i, i < n → Rep w E (vs i) (f i)) : Rep w E (.agg cs) (.agg n f)
  | tup (cs : Array Value) (n : Nat) (f : Nat → HV) (vs : Nat → Value) (hn : cs.size = n) (hv : ∀ i, i < n → cs[i]? = some (vs i))
      (h : ∀ i, i < n → Rep w E (vs i) (f i)) : Rep w E (.tuple cs) (.tup n f)
  | sl (A : Option Addr) (n c sz : Nat) (f : Nat → Nat → HV) (vs : Nat → Nat → Value) (hc : n ≤ c) (hm : c ≤ maxLen)
      (hA : 0 < n → ∃ b o, A = some ⟨b, o, none⟩ ∧ b < w.heap.size ∧ ∀ i j, i < n → j < sz → E.F ⟨b, o + (i * sz + j), none⟩ ∧ w.cell? ⟨b, o + (i * sz + j), none⟩ = some (vs i j) ∧ (vs i j).oneCell' = true)
      (h : ∀ i j, i < n → j < sz → Rep w E (vs i j) (f i j)) : Rep w E (.slice A n c) (.sl sz n f)
  | fp (b o n : Nat) (f : Nat → HV) (vs : Nat → Value)
      (hA : ∀ j, j < n → E.F ⟨b, o + j, none⟩ ∧ w.cell? ⟨b, o + j, none⟩ = some (vs j) ∧ (vs j).oneCell' = true)
      (h : ∀ j, j < n → Rep w E (vs j) (f j)) : Rep w E (.pointer (some ⟨b, o, none⟩)) (.fp n f)
  | pt (b k id g i off : Nat) (hg : E.G g) (h : ∀ l, E.L id = some l → l.g = g → l.A = some b ∧ k = i * l.sz + off) : Rep w E (.pointer (some ⟨b, k, none⟩)) (.pt id g i off)
  | os (A : Option Addr) (n c id g lo : Nat) (hg : E.G g) (hc : n ≤ c) (hm : c ≤ maxLen) (hA : 0 < n → ∃ b k, A = some ⟨b, k, none⟩ ∧ ∀ l, E.L id = some l → l.g = g → l.A = some b ∧ k = lo * l.sz)
      (h0 : ∀ l, E.L id = some l → l.g = g → lo = 0 → A = l.A.map (fun b => ⟨b, 0, none⟩) ∧ c = l.cap) : Rep w E (.slice A n c) (.os id g lo n)
  | ifc (t : TypeId) (v : Value) (x : HV) (h : Rep w E v x) : Rep w E (.iface t v) (.ifc t x)
  | fn (f : Fn) (cs : Array Value) (n : Nat) (x : Nat → HV) (vs : Nat → Value) (hn : cs.size = n) (hv : ∀ i, i < n → cs[i]? = some (vs i)) (h : ∀ i, i < n → Rep w E (vs i) (x i)) : Rep w E (.func f #[] cs) (.fn f n x)
  | bnd (f : Fn) (v : Value) (x : HV) (h : Rep w E v x) : Rep w E (.func f #[v] #[]) (.bnd f x)
  | npn (id g : Nat) (hg : E.G g) (h : ∀ l, E.L id = some l → l.g = g → l.cap = 1) : Rep w E (.pointer none) (.nps id g)
  | npp (v : Value) (id g : Nat) (hg : E.G g) (hc : ∀ l, E.L id = some l → l.g = g → l.cap = 1) (h : Rep w E v (.pt id g 0 0)) : Rep w E v (.nps id g)

/-- What was frozen is as it was, what was named is named no other way. -/
structure Ext (w : World) (E : Env) (w' : World) (E' : Env) : Prop where
  sz : w.heap.size ≤ w'.heap.size
  F : ∀ a, E.F a → E'.F a ∧ w'.cell? a = w.cell? a
  G : ∀ g, E.G g → E'.G g
  L : ∀ id l, E'.L id = some l → E.G l.g → E.L id = some l
theorem Ext.refl (w : World) (E : Env) : Ext w E w E := ⟨Nat.le_refl _, fun _ h => ⟨h, rfl⟩, fun _ h => h, fun _ _ h _ => h⟩
theorem Ext.trans {w w' w'' : World} {E E' E'' : Env} (h : Ext w E w' E') (k : Ext w' E' w'' E'') : Ext w E w'' E'' :=
  ⟨Nat.le_trans h.sz k.sz, fun a ha => ⟨(k.F a (h.F a ha).1).1, (k.F a (h.F a ha).1).2.trans (h.F a ha).2⟩, fun g hg => k.G g (h.G g hg), fun id l hl hg => h.L id l (k.L id l hl (h.G _ hg)) hg⟩
theorem Rep.ext {w w' : World} {E E' : Env} (e : Ext w E w' E') {v : Value} {x : HV} (h : Rep w E v x) : Rep w' E' v x := by
  induction h with
  | imm v => exact .imm v
  | agg cs n f vs hn hv _ ih => exact .agg cs n f vs hn hv ih
  | tup cs n f vs hn hv _ ih => exact .tup cs n f vs hn hv ih
  | sl A n c sz f vs hc hm hA _ ih =>
    refine .sl A n c sz f vs hc hm (fun hn => ?_) ih
    obtain ⟨b, o, h1, h2, h3⟩ := hA hn
    exact ⟨b, o, h1, Nat.lt_of_lt_of_le h2 e.sz, fun i j hi hj => ⟨(e.F _ (h3 i j hi hj).1).1, (e.F _ (h3 i j hi hj).1).2.trans (h3 i j hi hj).2.1, (h3 i j hi hj).2.2⟩⟩
  | fp b o n f vs hA _ ih => exact .fp b o n f vs (fun j hj => ⟨(e.F _ (hA j hj).1).1, (e.F _ (hA j hj).1).2.trans (hA j hj).2.1, (hA j hj).2.2⟩) ih
  | pt b k id g i off hg h => exact .pt b k id g i off (e.G _ hg) (fun l hl hlg => h l (e.L id l hl (hlg ▸ hg)) hlg)
  | os A n c id g lo hg hc hm hA h0 =>
    refine .os A n c id g lo (e.G _ hg) hc hm (fun hn => ?_) (fun l hl hlg => h0 l (e.L id l hl (hlg ▸ hg)) hlg)
    obtain ⟨b, k, h1, h2⟩ := hA hn
    exact ⟨b, k, h1, fun l hl hlg => h2 l (e.L id l hl (hlg ▸ hg)) hlg⟩
  | ifc t v x _ ih => exact .ifc t v x ih
  | fn f cs n x vs hn hv _ ih => exact .fn f cs n x vs hn hv ih
  | bnd f v x _ ih => exact .bnd f v x ih
  | npn id g hg h => exact .npn id g (e.G _ hg) (fun l hl hlg => h l (e.L id l hl (hlg ▸ hg)) hlg)
  | npp v id g hg hc _ ih => exact .npp v id g (e.G _ hg) (fun l hl hlg => hc l (e.L id l hl (hlg ▸ hg)) hlg) ih

/-- One cell. -/
def HV.one : HV → Bool
  | .imm v => v.oneCell'
  | .agg _ _ => false
  | .tup _ _ => false
  | _ => true
def HV.wid : HV → Nat
  | .agg n _ => n
  | _ => 1
def HV.cell : HV → Nat → HV
  | .agg _ f, j => f j
  | x, _ => x
def HV.flat : HV → Bool
  | .agg _ _ => true
  | x => x.one
theorem Rep.one {w : World} {E : Env} {v : Value} {x : HV} (h : Rep w E v x) (h1 : x.one = true) : v.oneCell' = true := by
  cases h <;> first | exact h1 | rfl | assumption | (rename_i h; cases h; rfl) | (simp [HV.one] at h1)
theorem cells_one {v : Value} (h : v.oneCell' = true) : v.cells = #[v] := by
  cases v <;> first | rfl | (simp [Value.oneCell'] at h)
theorem Rep.cells {w : World} {E : Env} {v : Value} {x : HV} (h : Rep w E v x) (hf : x.flat = true) : v.cells.size = x.wid ∧ ∃ vs : Nat → Value, ∀ j, j < x.wid → v.cells[j]? = some (vs j) ∧ (vs j).oneCell' = true ∧ Rep w E (vs j) (x.cell j) := by
  by_cases ha : ∃ n f, x = .agg n f
  · obtain ⟨n, f, rfl⟩ := ha
    cases h with
    | agg cs _ _ vs hn hv h => exact ⟨hn, vs, fun j hj => ⟨(hv j hj).1, (hv j hj).2, h j hj⟩⟩
  · have hone : x.one = true := by
      cases x <;> first | exact hf | (exact absurd ⟨_, _, rfl⟩ ha)
    have hw : x.wid = 1 := by
      cases x <;> first | rfl | (exact absurd ⟨_, _, rfl⟩ ha)
    have hc : ∀ j, x.cell j = x := by
      intro j
      cases x <;> first | rfl | (exact absurd ⟨_, _, rfl⟩ ha)
    have h1 := h.one hone
    rw [cells_one h1, hw]
    refine ⟨rfl, fun _ => v, fun j hj => ?_⟩
    have : j = 0 := by omega
    subst this
    exact ⟨rfl, h1, by rw [hc]; exact h⟩

/-- An object of the call's own: n elements of sz cells; the first fl are written no more. -/
structure HObj where
  g : Nat
  n : Nat
  sz : Nat
  ty : TypeId
  fl : Nat
  f : Nat → Nat → HV

/-- An object that is no row of cells: fl lies above n. -/
inductive RawIs : HObj → Obj → Prop
  | iter (g ty : Nat) (s : ByteArray) (p : Nat) : RawIs ⟨g, 0, 1, ty, 1, fun _ _ => .imm (.tuple #[.string s, .int .i64 (p : Int)])⟩ (.stringIter s p)
theorem RawIs.n {o : HObj} {ob : Obj} (h : RawIs o ob) : o.n = 0 := by cases h <;> rfl
theorem RawIs.fl {o : HObj} {ob : Obj} (h : RawIs o ob) : o.fl = 1 := by cases h <;> rfl
structure ObjAt (w : World) (E : Env) (K : Nat → Prop) (B : Nat) (o : HObj) (l : Loc) : Prop where
  g : l.g = o.g
  G : E.G o.g
  sz : l.sz = o.sz
  pos : 0 < o.sz
  at_ : (l.A = none ∧ l.cap = 0 ∧ o.n = 0 ∧ o.fl ≤ o.n) ∨ (∃ b cs, l.A = some b ∧ Blk w b o.ty cs ∧ cs.size = l.cap * o.sz ∧ o.n ≤ l.cap ∧ l.cap ≤ maxLen ∧ (b < B → ¬ K b) ∧ 
    (∃ vs : Nat → Nat → Value, ∀ i j, i < o.n → j < o.sz → cs[i * o.sz + j]? = some (vs i j) ∧ (vs i j).oneCell' = true ∧ Rep w E (vs i j) (o.f i j)) ∧ (∀ k, E.F ⟨b, k, none⟩ → k < o.fl * o.sz) ∧ o.fl ≤ o.n) ∨ ∃ b ob, l.A = some b ∧ w.heap[b]? = some ob ∧ RawIs o ob ∧ (b < B → ¬ K b)

/-- The call's world: what K keeps is as it was at w0; F0 was frozen then; h is what the call owns. -/
structure R (K : Nat → Prop) (w0 : World) (F0 : Addr → Prop) (E : Env) (h : Nat → Option HObj) (w : World) : Prop where
  os : w.os = w0.os
  tape : w.tape = w0.tape
  output : w.output = w0.output
  size : w0.heap.size ≤ w.heap.size
  keep : ∀ k, k < w0.heap.size → K k → w.heap[k]? = w0.heap[k]?
  frz : ∀ a, E.F a → a.spot = none ∧ (w.cell? a).isSome = true
  fnew : ∀ a, E.F a → F0 a ∨ w0.heap.size ≤ a.block ∨ ¬ K a.block
  klib : ∀ b, isLib b → K b
  lib : LibW w0
  obj : ∀ id o, h id = some o → ∃ l, E.L id = some l ∧ ObjAt w E K w0.heap.size o l
  inj : ∀ id id' o o' l l' b, h id = some o → h id' = some o' → E.L id = some l → E.L id' = some l' → l.A = some b → l'.A = some b → id = id'

section
variable {K : Nat → Prop} {w0 w w' : World} {F0 : Addr → Prop} {E E' : Env} {h h' : Nat → Option HObj}
theorem lt_of_cell {w : World} {a : Addr} (h : (w.cell? a).isSome = true) : a.block < w.heap.size := by
  obtain ⟨u, hu⟩ := Option.isSome_iff_exists.1 h
  exact World.block_lt_of_cell? w a hu
/-- The frozen cells are as they were where the blocks are. -/
theorem R.extBelow (r : R K w0 F0 E h w) (hb : Below w.heap.size w w') : Ext w E w' E :=
  ⟨hb.size, fun a ha => ⟨ha, World.cell?_of_block (hb.block _ (lt_of_cell (r.frz a ha).2))⟩, fun _ hg => hg, fun _ _ hl _ => hl⟩
theorem ObjAt.ext {o : HObj} {l : Loc} {B : Nat} (a : ObjAt w E K B o l) (e : Ext w E w' E') (hb : ∀ b, l.A = some b → w'.heap[b]? = w.heap[b]?) (hF : ∀ b k, l.A = some b → E'.F ⟨b, k, none⟩ → E.F ⟨b, k, none⟩) : ObjAt w' E' K B o l := by
  refine ⟨a.g, e.G _ a.G, a.sz, a.pos, ?_⟩
  rcases a.at_ with h0 | ⟨b, cs, h1, h2, h3, h4, h5, h6, ⟨vs, h8⟩, h9⟩ | ⟨b, ob, h1, h2, h3, h4⟩
  · exact .inl h0
  · exact .inr (.inl ⟨b, cs, h1, (hb b h1).trans h2, h3, h4, h5, h6, ⟨vs, fun i j hi hj => ⟨(h8 i j hi hj).1, (h8 i j hi hj).2.1, (h8 i j hi hj).2.2.ext e⟩⟩, fun k hk => h9.1 k (hF b k h1 hk), h9.2⟩)
  · exact .inr (.inr ⟨b, ob, h1, (hb b h1).trans h2, h3, h4⟩)
theorem ObjAt.notK {o : HObj} {l : Loc} {B b : Nat} (a : ObjAt w E K B o l) (hb : l.A = some b) : b < B → ¬ K b := by
  rcases a.at_ with ⟨h0, _⟩ | ⟨b', cs, h1, _, _, _, _, h6, _⟩ | ⟨b', ob, h1, _, _, h6⟩
  · rw [h0] at hb; cases hb
  · rw [h1] at hb; injection hb with hb; subst hb; exact h6
  · rw [h1] at hb; injection hb with hb; subst hb; exact h6
theorem ObjAt.lt {o : HObj} {l : Loc} {B b : Nat} (a : ObjAt w E K B o l) (hb : l.A = some b) : b < w.heap.size := by
  rcases a.at_ with ⟨h0, _⟩ | ⟨b', cs, h1, h2, _⟩ | ⟨b', ob, h1, h2, _⟩
  · rw [h0] at hb; cases hb
  · rw [h1] at hb; injection hb with hb; subst hb; exact h2.lt
  · rw [h1] at hb; injection hb with hb; subst hb
    rcases Nat.lt_or_ge b' w.heap.size with h | h
    · exact h
    · rw [Array.getElem?_eq_none h] at h2; cases h2
theorem R.libw (r : R K w0 F0 E h w) : LibW w := r.lib.agree r.size fun b hb => r.keep b (r.lib.ok b hb) (r.klib b hb)
/-- The world grows; more may be frozen in what is new. -/
theorem R.grow (r : R K w0 F0 E h w) (hb : Below w.heap.size w w') (e : Ext w E w' E') (hL : E'.L = E.L) (hF : ∀ a, E'.F a → E.F a ∨ w.heap.size ≤ a.block) (hf : ∀ a, E'.F a → a.spot = none ∧ (w'.cell? a).isSome = true) : R K w0 F0 E' h w' where
  os := hb.os.trans r.os
  tape := hb.tape.trans r.tape
  output := hb.output.trans r.output
  size := Nat.le_trans r.size hb.size
  keep k hk hK := (hb.block k (Nat.lt_of_lt_of_le hk r.size)).trans (r.keep k hk hK)
  frz := hf
  fnew a ha := by
    rcases hF a ha with h1 | h1
    · exact r.fnew a h1
    · exact .inr (.inl (Nat.le_trans r.size h1))
  klib := r.klib
  lib := r.lib
  obj id o ho := by
    obtain ⟨l, hl, a⟩ := r.obj id o ho
    refine ⟨l, by rw [hL]; exact hl, a.ext e (fun b hb' => hb.block b (a.lt hb')) (fun b k hb' hk => ?_)⟩
    rcases hF _ hk with h1 | h1
    · exact h1
    · have := a.lt hb'; exact absurd h1 (by simp; omega)
  inj id id' o o' l l' b ho ho' hl hl' := by rw [hL] at hl hl'; exact r.inj id id' o o' l l' b ho ho' hl hl'
theorem R.growSame (r : R K w0 F0 E h w) (hb : Below w.heap.size w w') : R K w0 F0 E h w' :=
  r.grow hb (r.extBelow hb) rfl (fun _ ha => .inl ha) (fun a ha => ⟨(r.frz a ha).1, by rw [((r.extBelow hb).F a ha).2]; exact (r.frz a ha).2⟩)
theorem R.drew (r : R K w0 F0 E h w) : R K w0 F0 E h w.drew := r.growSame (Below.refl _ _).drew
/-- Fewer objects. -/
theorem R.less (r : R K w0 F0 E h w) (hh : ∀ id o, h' id = some o → h id = some o) : R K w0 F0 E h' w :=
  { r with obj := fun id o ho => r.obj id o (hh id o ho), inj := fun id id' o o' l l' b ho ho' => r.inj id id' o o' l l' b (hh id o ho) (hh id' o' ho') }

def hset (h : Nat → Option HObj) (id : Nat) (o : HObj) : Nat → Option HObj := fun k => if k = id then some o else h k
theorem hset_same (h : Nat → Option HObj) (id : Nat) (o : HObj) : hset h id o id = some o := by simp [hset]
theorem hset_ne (h : Nat → Option HObj) {id k : Nat} (o : HObj) (hk : k ≠ id) : hset h id o k = h k := by simp [hset, hk]

/-- A new object. -/
def Env.new (E : Env) (id g b cap sz : Nat) : Env := ⟨E.F, fun k => if k = id then some ⟨g, some b, cap, sz⟩ else E.L k, fun k => E.G k ∨ k = g⟩
theorem Env.new_L (E : Env) (id g b cap sz : Nat) : (E.new id g b cap sz).L id = some ⟨g, some b, cap, sz⟩ := by simp [Env.new]
theorem Env.new_Lne (E : Env) {id g b cap sz k : Nat} (hk : k ≠ id) : (E.new id g b cap sz).L k = E.L k := by simp [Env.new, hk]
theorem Ext.new (w : World) (E : Env) (id g b cap sz : Nat) (hg : ¬ E.G g) (w' : World) (hs : w.heap.size ≤ w'.heap.size) (hF : ∀ a, E.F a → w'.cell? a = w.cell? a) : Ext w E w' (E.new id g b cap sz) :=
  ⟨hs, fun a ha => ⟨ha, hF a ha⟩, fun g hg => .inl hg, fun k l hl hG => by
    by_cases hk : k = id
    · subst hk
      rw [Env.new_L] at hl
      injection hl with hl
      subst hl
      exact absurd hG hg
    · rwa [Env.new_Lne E hk] at hl⟩
theorem R.new (r : R K w0 F0 E h w) (id g : Nat) (cap sz : Nat) (ty : TypeId) (cs : Array Value) (f : Nat → Nat → HV) (n : Nat) (vs : Nat → Nat → Value) (hg : ¬ E.G g) (hsz : 0 < sz) (hcs : cs.size = cap * sz) (hn : n ≤ cap) (hm : cap ≤ maxLen)
    (hv : ∀ i j, i < n → j < sz → cs[i * sz + j]? = some (vs i j) ∧ (vs i j).oneCell' = true ∧ Rep w E (vs i j) (f i j)) :
    Ext w E (w.alloc (.cells cs ty)) (E.new id g w.heap.size cap sz) ∧ R K w0 F0 (E.new id g w.heap.size cap sz) (hset h id ⟨g, n, sz, ty, 0, f⟩) (w.alloc (.cells cs ty)) := by
  have hb : Below w.heap.size w (w.alloc (.cells cs ty)) := (Below.refl _ _).alloc (Nat.le_refl _) _
  have e : Ext w E (w.alloc (.cells cs ty)) (E.new id g w.heap.size cap sz) := Ext.new w E id g _ cap sz hg _ hb.size (fun a ha => ((r.extBelow hb).F a ha).2)
  refine ⟨e, hb.os.trans r.os, hb.tape.trans r.tape, hb.output.trans r.output, Nat.le_trans r.size hb.size, fun k hk hK => (hb.block k (Nat.lt_of_lt_of_le hk r.size)).trans (r.keep k hk hK),
    fun a ha => ⟨(r.frz a ha).1, by rw [(e.F a ha).2]; exact (r.frz a ha).2⟩, r.fnew, r.klib, r.lib, fun k o ho => ?_, fun k k' o o' l l' b ho ho' hl hl' hb1 hb2 => ?_⟩
  · by_cases hk : k = id
    · subst hk
      rw [hset_same] at ho
      injection ho with ho
      subst ho
      refine ⟨_, Env.new_L _ _ _ _ _ _, rfl, .inr rfl, rfl, hsz, .inr (.inl ⟨w.heap.size, cs, rfl, Blk.new w ty cs, hcs, hn, hm, fun hlt => absurd hlt (by have := r.size; omega), ⟨vs, fun i j hi hj => ⟨(hv i j hi hj).1, (hv i j hi hj).2.1, (hv i j hi hj).2.2.ext e⟩⟩, fun k hk => ?_, Nat.zero_le _⟩)⟩
      have := lt_of_cell (r.frz _ hk).2
      exact absurd this (by simp)
    · rw [hset_ne _ _ hk] at ho
      obtain ⟨l, hl, a⟩ := r.obj k o ho
      exact ⟨l, by rw [Env.new_Lne E hk]; exact hl, a.ext e (fun b hb' => hb.block b (a.lt hb')) (fun _ _ _ hF => hF)⟩
  · have old : ∀ k o l, k ≠ id → hset h id ⟨g, n, sz, ty, 0, f⟩ k = some o → (E.new id g w.heap.size cap sz).L k = some l → h k = some o ∧ E.L k = some l ∧ ∀ b, l.A = some b → b < w.heap.size := by
      intro k o l hk ho hl
      rw [hset_ne _ _ hk] at ho
      rw [Env.new_Lne E hk] at hl
      obtain ⟨l', hl', a⟩ := r.obj k o ho
      rw [hl] at hl'
      injection hl' with hl'
      subst hl'
      exact ⟨ho, hl, fun b hb' => a.lt hb'⟩
    by_cases hk : k = id <;> by_cases hk' : k' = id
    · rw [hk, hk']
    · subst hk
      rw [Env.new_L] at hl
      injection hl with hl
      subst hl
      have := (old k' o' l' hk' ho' hl').2.2 b hb2
      injection hb1 with hb1
      omega
    · subst hk'
      rw [Env.new_L] at hl'
      injection hl' with hl'
      subst hl'
      have := (old k o l hk ho hl).2.2 b hb1
      injection hb2 with hb2
      omega
    · have a1 := old k o l hk ho hl
      have a2 := old k' o' l' hk' ho' hl'
      exact r.inj k k' o o' l l' b a1.1 a2.1 a1.2.1 a2.2.1 hb1 hb2
end
end Go.Proofs.YtijpdbjcmnpobaaDoor
