/-
  What a store, an append, a freezing do to what a call owns. Plain lemmas, no program in sight.
-/
import Derived.Test.YtijpdbjcmnpobaaDoorHv
namespace Go.Proofs.YtijpdbjcmnpobaaDoor
set_option linter.unusedSimpArgs false
set_option linter.unusedVariables false
open Go.RowKit

theorem Blk.setCells {g : Nat} {t : TypeId} : ∀ (vs : List Value) (o : Nat) {w : World} {cs : Array Value}, Blk w g t cs → Blk (w.setCells g o vs) g t (putL cs.toList o vs).toArray
  | [], o, w, cs, h => by simpa [World.setCells, putL] using h
  | v :: r, o, w, cs, h => by
    rw [World.setCells, putL]
    have := Blk.setCells r (o + 1) (h.set_ o v)
    rwa [Array.toList_setIfInBounds] at this

def inb (i off m i' j : Nat) : Bool := Nat.beq i' i && (Nat.ble off j && Nat.blt j (off + m))
/-- Some cells of element i, put anew. -/
def upd (f : Nat → Nat → HV) (i off m : Nat) (g : Nat → HV) : Nat → Nat → HV := fun i' j => match inb i off m i' j with | true => g (j - off) | false => f i' j
theorem inb_iff (i off m i' j : Nat) : inb i off m i' j = true ↔ i' = i ∧ off ≤ j ∧ j < off + m := by
  simp [inb, Nat.blt_eq]
theorem upd_in {f : Nat → Nat → HV} {i off m : Nat} {g : Nat → HV} {i' j : Nat} (h : i' = i ∧ off ≤ j ∧ j < off + m) : upd f i off m g i' j = g (j - off) := by
  unfold upd; rw [(inb_iff _ _ _ _ _).2 h]
theorem upd_out {f : Nat → Nat → HV} {i off m : Nat} {g : Nat → HV} {i' j : Nat} (h : ¬ (i' = i ∧ off ≤ j ∧ j < off + m)) : upd f i off m g i' j = f i' j := by
  unfold upd
  rw [show inb i off m i' j = false from by rw [← Bool.not_eq_true, inb_iff]; exact h]

section
variable {K : Nat → Prop} {w0 w w' : World} {F0 : Addr → Prop} {E E' : Env} {h h' : Nat → Option HObj}
theorem pos_in {sz n i j : Nat} (hi : i < n) (hj : j < sz) : i * sz + j < n * sz := by
  have := Nat.mul_le_mul_right sz (show i + 1 ≤ n from hi)
  rw [Nat.add_mul] at this; omega
theorem pos_eq {sz i i' j j' : Nat} (hj : j < sz) (hj' : j' < sz) (h : i * sz + j = i' * sz + j') : i = i' ∧ j = j' := by
  have h1 : (i * sz + j) / sz = i := by rw [Nat.mul_comm, Nat.mul_add_div (by omega), Nat.div_eq_of_lt hj]; omega
  have h2 : (i' * sz + j') / sz = i' := by rw [Nat.mul_comm, Nat.mul_add_div (by omega), Nat.div_eq_of_lt hj']; omega
  have : i = i' := by rw [← h1, ← h2, h]
  subst this
  exact ⟨rfl, by omega⟩

/-- The world turns in one owned block alone. -/
theorem R.write (r : R K w0 F0 E h w) (id : Nat) (o o' : HObj) (l : Loc) (b : Nat) (ho : h id = some o) (hl : E.L id = some l) (hb : l.A = some b)
    (hos : w'.os = w.os) (htape : w'.tape = w.tape) (hout : w'.output = w.output) (hsz : w'.heap.size = w.heap.size) (hh : ∀ k, k ≠ b → w'.heap[k]? = w.heap[k]?)
    (hF : ∀ k, E.F ⟨b, k, none⟩ → w'.cell? ⟨b, k, none⟩ = w.cell? ⟨b, k, none⟩)
    (ha : ∀ e : Ext w E w' E, ObjAt w' E K w0.heap.size o' l) : Ext w E w' E ∧ R K w0 F0 E (hset h id o') w' := by
  obtain ⟨l', hl', a⟩ := r.obj id o ho
  rw [hl] at hl'
  injection hl' with hl'
  subst hl'
  have e : Ext w E w' E := by
    refine ⟨Nat.le_of_eq hsz.symm, fun p hp => ⟨hp, ?_⟩, fun _ hg => hg, fun _ _ hl _ => hl⟩
    by_cases hpb : p.block = b
    · obtain ⟨pb, po, ps⟩ := p
      have hs := (r.frz _ hp).1
      simp only at hs hpb
      subst hs; subst hpb
      exact hF po hp
    · exact World.cell?_of_block (hh _ hpb)
  have hK : ∀ b', l.A = some b' → b' < w0.heap.size → ¬ K b' := by
    intro b' hb'
    exact a.notK hb'
  refine ⟨e, ⟨hos.trans r.os, htape.trans r.tape, hout.trans r.output, by rw [hsz]; exact r.size, fun k hk hKk => ?_, fun p hp => ⟨(r.frz p hp).1, by rw [(e.F p hp).2]; exact (r.frz p hp).2⟩, r.fnew, r.klib, r.lib, fun k o1 ho1 => ?_, fun k k' o1 o2 l1 l2 b' ho1 ho2 hl1 hl2 hb1 hb2 => ?_⟩⟩
  · rw [hh k (fun he => by subst he; exact hK k hb hk hKk)]
    exact r.keep k hk hKk
  · by_cases hk : k = id
    · subst hk
      rw [hset_same] at ho1
      injection ho1 with ho1
      subst ho1
      exact ⟨l, hl, ha e⟩
    · rw [hset_ne _ _ hk] at ho1
      obtain ⟨l1, hl1, a1⟩ := r.obj k o1 ho1
      exact ⟨l1, hl1, a1.ext e (fun b' hb' => hh b' (fun he => by subst he; exact hk (r.inj k id o1 o l1 l b' ho1 ho hl1 hl hb' hb))) (fun _ _ _ hF => hF)⟩
  · have old : ∀ k o, hset h id o' k = some o → ∃ o, h k = some o := by
      intro k o1 ho1
      by_cases hk : k = id
      · subst hk; exact ⟨o, ho⟩
      · rw [hset_ne _ _ hk] at ho1; exact ⟨o1, ho1⟩
    obtain ⟨p1, hp1⟩ := old k o1 ho1
    obtain ⟨p2, hp2⟩ := old k' o2 ho2
    exact r.inj k k' p1 p2 l1 l2 b' hp1 hp2 hl1 hl2 hb1 hb2
theorem setCells_same (g : Nat) : ∀ (vs : List Value) (o : Nat) (w : World), (w.setCells g o vs).os = w.os ∧ (w.setCells g o vs).tape = w.tape ∧ (w.setCells g o vs).output = w.output
  | [], _, _ => ⟨rfl, rfl, rfl⟩
  | v :: r, o, w => by rw [World.setCells]; exact setCells_same g r _ _
/-- A store into what the call owns. -/
theorem R.store (r : R K w0 F0 E h w) (id : Nat) (o : HObj) (l : Loc) (b : Nat) (ho : h id = some o) (hl : E.L id = some l) (hb : l.A = some b) (i off : Nat) (us : List Value) (g : Nat → HV)
    (hi : i < o.n) (hfl : o.fl ≤ i) (hoff : off + us.length ≤ o.sz) (hu : ∀ (j : Nat) (u : Value), us[j]? = some u → u.oneCell' = true ∧ Rep w E u (g j)) :
    Ext w E (w.setCells b (i * o.sz + off) us) E ∧ R K w0 F0 E (hset h id { o with f := upd o.f i off us.length g }) (w.setCells b (i * o.sz + off) us) := by
  obtain ⟨l', hl', a⟩ := r.obj id o ho
  rw [hl] at hl'
  injection hl' with hl'
  subst hl'
  rcases a.at_ with ⟨h0, _⟩ | ⟨b', cs, h1, h2, h3, h4, h5, h6, ⟨vs, h8⟩, h9⟩ | ⟨_, _, _, _, h3, _⟩
  rotate_right
  · have := h3.n; omega
  · rw [h0] at hb; cases hb
  · rw [h1] at hb
    injection hb with hb
    subst hb
    have hs := setCells_same b' us (i * o.sz + off) w
    have hle : i * o.sz + off + us.length ≤ cs.toList.length := by
      have := Nat.mul_le_mul_right o.sz (show i + 1 ≤ l.cap from by omega)
      rw [Nat.add_mul] at this
      have h3' : cs.toList.length = l.cap * o.sz := by rw [Array.length_toList, h3]
      rw [h3']; omega
    have hB := Blk.setCells us (i * o.sz + off) h2
    refine r.write id o _ l b' ho hl h1 hs.1 hs.2.1 hs.2.2 (size_setCells _ _ _ _) (fun k hk => heap_setCells_other _ _ _ _ _ hk) (fun k hk => ?_) (fun e => ?_)
    · have hk' := h9.1 k hk
      rw [hB.cell, h2.cell]
      have hlt : k < i * o.sz + off := by have := Nat.mul_le_mul_right o.sz hfl; omega
      rw [List.getElem?_toArray, putL_get _ _ _ _ hle, if_neg (by omega), Array.getElem?_toList]
    · refine ⟨a.g, a.G, a.sz, a.pos, .inr (.inl ⟨b', _, h1, hB, by rw [List.size_toArray, putL_length, Array.length_toList]; exact h3, h4, h5, h6, ⟨fun i' j => if i' = i ∧ off ≤ j ∧ j < off + us.length then us.getD (j - off) undef else vs i' j, fun i' j hi' hj => ?_⟩, h9⟩)⟩
      · simp only at hi' hj
        show (putL cs.toList (i * o.sz + off) us).toArray[i' * o.sz + j]? = some (if i' = i ∧ off ≤ j ∧ j < off + us.length then us.getD (j - off) undef else vs i' j) ∧ (if i' = i ∧ off ≤ j ∧ j < off + us.length then us.getD (j - off) undef else vs i' j).oneCell' = true ∧ Rep _ E (if i' = i ∧ off ≤ j ∧ j < off + us.length then us.getD (j - off) undef else vs i' j) (upd o.f i off us.length g i' j)
        rw [List.getElem?_toArray, putL_get _ _ _ _ hle]
        by_cases hc : i' = i ∧ off ≤ j ∧ j < off + us.length
        · have hd : j - off < us.length := by omega
          have hlook : us[j - off]? = some us[j - off] := List.getElem?_eq_getElem hd
          have hgd : us.getD (j - off) undef = us[j - off] := by simp [List.getD, hlook]
          rw [if_pos hc, upd_in hc, hgd]
          obtain ⟨rfl, hj1, hj2⟩ := hc
          rw [if_pos (by omega), show i' * o.sz + j - (i' * o.sz + off) = j - off from by omega]
          exact ⟨hlook, (hu _ _ hlook).1, (hu _ _ hlook).2.ext e⟩
        · rw [upd_out hc, if_neg hc, if_neg, Array.getElem?_toList]
          · exact ⟨(h8 i' j hi' hj).1, (h8 i' j hi' hj).2.1, (h8 i' j hi' hj).2.2.ext e⟩
          · intro hh
            apply hc
            have hlt : off + us.length ≤ o.sz := hoff
            have : i' = i := by
              have e1 : i' * o.sz + j = i * o.sz + (i' * o.sz + j - i * o.sz) := by omega
              exact (pos_eq hj (by omega) e1).1
            subst this
            exact ⟨rfl, by omega, by omega⟩
/-- What is known of an object. -/
theorem R.objAt (r : R K w0 F0 E h w) {id : Nat} {o : HObj} (ho : h id = some o) (hn : 0 < o.n) : ∃ l b cs, E.L id = some l ∧ l.g = o.g ∧ l.sz = o.sz ∧ l.A = some b ∧ Blk w b o.ty cs ∧ cs.size = l.cap * o.sz ∧ o.n ≤ l.cap ∧ l.cap ≤ maxLen ∧
    ∃ vs : Nat → Nat → Value, ∀ i j, i < o.n → j < o.sz → cs[i * o.sz + j]? = some (vs i j) ∧ (vs i j).oneCell' = true ∧ Rep w E (vs i j) (o.f i j) := by
  obtain ⟨l, hl, a⟩ := r.obj id o ho
  rcases a.at_ with ⟨_, _, h0⟩ | ⟨b, cs, h1, h2, h3, h4, h5, h6, h8, h9⟩ | ⟨_, _, _, _, h3, _⟩
  rotate_right
  · have := h3.n; omega
  · omega
  · exact ⟨l, b, cs, hl, a.g, a.sz, h1, h2, h3, h4, h5, h8⟩
/-- The object's row, as the append's law asks it. -/
theorem R.owns (r : R K w0 F0 E h w) {id : Nat} {o : HObj} (ho : h id = some o) (m : Nat) (hm : m ≤ o.n) (hfm : o.fl ≤ m) : ∃ l xs, E.L id = some l ∧ w.ownsRow 0 o.ty o.sz (.slice (l.A.map fun b => ⟨b, 0, none⟩) m l.cap) m xs ∧ l.cap ≤ maxLen ∧
    ∀ i j, i < m → j < o.sz → ∃ u, xs[i * o.sz + j]? = some u ∧ u.oneCell' = true ∧ Rep w E u (o.f i j) := by
  obtain ⟨l, hl, a⟩ := r.obj id o ho
  rcases a.at_ with ⟨h0, h1, h2⟩ | ⟨b, cs, h1, h2, h3, h4, h5, h6, ⟨vs, h8⟩, h9⟩ | ⟨_, _, _, _, h3, _⟩
  rotate_right
  · have := h3.n; have := h3.fl; omega
  · obtain rfl : m = 0 := by omega
    refine ⟨l, [], hl, ⟨by simp, .inl ⟨by rw [h0, h1]; rfl, rfl⟩⟩, by rw [h1]; unfold maxLen; omega, fun i j hi => by omega⟩
  · have hle : m * o.sz ≤ l.cap * o.sz := Nat.mul_le_mul_right _ (by omega)
    refine ⟨l, cs.toList.take (m * o.sz), hl, ⟨by rw [List.length_take, Array.length_toList, h3]; omega, .inr ⟨b, l.cap, cs, by rw [h1]; rfl, Nat.zero_le _, h2, by omega, h5, h3, rfl⟩⟩, h5, fun i j hi hj => ?_⟩
    have hlt := pos_in (sz := o.sz) hi hj
    obtain ⟨e1, e3, e2⟩ := h8 i j (by omega) hj
    exact ⟨vs i j, by rw [List.getElem?_take, if_pos hlt, Array.getElem?_toList]; exact e1, e3, e2⟩
end

/-- The name's place, put anew. -/
def Env.place (E : Env) (id : Nat) (l : Loc) : Env := ⟨E.F, fun k => if k = id then some l else E.L k, fun k => E.G k ∨ k = l.g⟩
theorem Env.place_L (E : Env) (id : Nat) (l : Loc) : (E.place id l).L id = some l := by simp [Env.place]
theorem Env.place_Lne (E : Env) {id k : Nat} (l : Loc) (hk : k ≠ id) : (E.place id l).L k = E.L k := by simp [Env.place, hk]
section
variable {K : Nat → Prop} {w0 w w' : World} {F0 : Addr → Prop} {E E' : Env} {h h' : Nat → Option HObj}
theorem R.renew (r : R K w0 F0 E h w) (id : Nat) (o o' : HObj) (l l' : Loc) (ho : h id = some o) (hl : E.L id = some l) (hg : ¬ E.G l'.g)
    (hos : w'.os = w.os) (htape : w'.tape = w.tape) (hout : w'.output = w.output) (hsz : w.heap.size ≤ w'.heap.size) (hh : ∀ k, k < w.heap.size → l.A ≠ some k → w'.heap[k]? = w.heap[k]?)
    (hF : ∀ b k, l.A = some b → E.F ⟨b, k, none⟩ → w'.cell? ⟨b, k, none⟩ = w.cell? ⟨b, k, none⟩) (hA : ∀ b, l'.A = some b → l.A = some b ∨ w.heap.size ≤ b)
    (ha : ∀ e : Ext w E w' (E.place id l'), ObjAt w' (E.place id l') K w0.heap.size o' l') : Ext w E w' (E.place id l') ∧ R K w0 F0 (E.place id l') (hset h id o') w' := by
  obtain ⟨l1, hl1, a⟩ := r.obj id o ho
  rw [hl] at hl1
  injection hl1 with hl1
  subst hl1
  have hlb : ∀ b, l.A = some b → b < w.heap.size := fun b hb => a.lt hb
  have e : Ext w E w' (E.place id l') := by
    refine ⟨hsz, fun p hp => ⟨hp, ?_⟩, fun _ hg => .inl hg, fun k l2 hl2 hg2 => ?_⟩
    · by_cases hpb : l.A = some p.block
      · obtain ⟨pb, po, ps⟩ := p
        have hs := (r.frz _ hp).1
        simp only at hs hpb
        subst hs
        exact hF pb po hpb hp
      · exact World.cell?_of_block (hh _ (lt_of_cell (r.frz _ hp).2) hpb)
    · by_cases hk : k = id
      · subst hk
        rw [Env.place_L] at hl2
        injection hl2 with hl2
        subst hl2
        exact absurd hg2 hg
      · rwa [Env.place_Lne _ _ hk] at hl2
  have hK : ∀ b', l.A = some b' → b' < w0.heap.size → ¬ K b' := by
    intro b' hb'
    exact a.notK hb'
  have oth : ∀ k o1 l1, k ≠ id → h k = some o1 → E.L k = some l1 → ∀ b, l1.A = some b → b < w.heap.size ∧ l.A ≠ some b := by
    intro k o1 l1 hk ho1 hl1 b hb
    obtain ⟨l2, hl2, a2⟩ := r.obj k o1 ho1
    rw [hl1] at hl2
    injection hl2 with hl2
    subst hl2
    exact ⟨a2.lt hb, fun hlb => hk (r.inj k id o1 o l1 l b ho1 ho hl1 hl hb hlb)⟩
  refine ⟨e, ⟨hos.trans r.os, htape.trans r.tape, hout.trans r.output, Nat.le_trans r.size hsz, fun k hk hKk => ?_, fun p hp => ⟨(r.frz p hp).1, by rw [(e.F p hp).2]; exact (r.frz p hp).2⟩, r.fnew, r.klib, r.lib, fun k o1 ho1 => ?_, fun k k' o1 o2 l1 l2 b' ho1 ho2 hl1 hl2 hb1 hb2 => ?_⟩⟩
  · rw [hh k (Nat.lt_of_lt_of_le hk r.size) (fun he => hK k he hk hKk)]
    exact r.keep k hk hKk
  · by_cases hk : k = id
    · subst hk
      rw [hset_same] at ho1
      injection ho1 with ho1
      subst ho1
      exact ⟨l', Env.place_L _ _ _, ha e⟩
    · rw [hset_ne _ _ hk] at ho1
      obtain ⟨l1, hl1, a1⟩ := r.obj k o1 ho1
      refine ⟨l1, by rw [Env.place_Lne _ _ hk]; exact hl1, a1.ext e (fun b' hb' => ?_) (fun _ _ _ hF => hF)⟩
      have := oth k o1 l1 hk ho1 hl1 b' hb'
      exact hh b' this.1 this.2
  · have old : ∀ k o1 l1, k ≠ id → hset h id o' k = some o1 → (E.place id l').L k = some l1 → ∀ b, l1.A = some b → h k = some o1 ∧ E.L k = some l1 ∧ b < w.heap.size ∧ l.A ≠ some b := by
      intro k o1 l1 hk ho1 hl1 b hb
      rw [hset_ne _ _ hk] at ho1
      rw [Env.place_Lne _ _ hk] at hl1
      exact ⟨ho1, hl1, oth k o1 l1 hk ho1 hl1 b hb⟩
    by_cases hk : k = id <;> by_cases hk' : k' = id
    · rw [hk, hk']
    · subst hk
      rw [Env.place_L] at hl1
      injection hl1 with hl1
      subst hl1
      have := old k' o2 l2 hk' ho2 hl2 b' hb2
      rcases hA b' hb1 with h1 | h1
      · exact absurd h1 this.2.2.2
      · omega
    · subst hk'
      rw [Env.place_L] at hl2
      injection hl2 with hl2
      subst hl2
      have := old k o1 l1 hk ho1 hl1 b' hb1
      rcases hA b' hb2 with h1 | h1
      · exact absurd h1 this.2.2.2
      · omega
    · have a1 := old k o1 l1 hk ho1 hl1 b' hb1
      have a2 := old k' o2 l2 hk' ho2 hl2 b' hb2
      exact r.inj k k' o1 o2 l1 l2 b' a1.1 a2.1 a1.2.1 a2.2.1 hb1 hb2
end

def cat (m : Nat) (f g : Nat → Nat → HV) : Nat → Nat → HV := fun i j => match Nat.blt i m with | true => f i j | false => g (i - m) j
theorem cat_lt {m : Nat} {f g : Nat → Nat → HV} {i j : Nat} (h : i < m) : cat m f g i j = f i j := by
  unfold cat; rw [show Nat.blt i m = true from by simpa [Nat.blt_eq] using h]
theorem cat_ge {m : Nat} {f g : Nat → Nat → HV} {i j : Nat} (h : m ≤ i) : cat m f g i j = g (i - m) j := by
  unfold cat; rw [show Nat.blt i m = false from by rw [← Bool.not_eq_true, Nat.blt_eq]; omega]

section
variable {P : Program}
/-- append onto a row of one's own: in its place, or in a new block. -/
theorem run_append_obj (w : World) (t ty e : TypeId) (i : TypeInfo) (z : Value) (size bytes : Nat) (ht : P.underlying t = some (.slice e)) (hi : P.info? e = some i) (hz : i.zero = some z)
    (hsize : i.size = size) (hby : i.bytes = bytes) (hzs : z.cells.size = size) (hsz : 0 < size)
    (v : Value) (n : Nat) (xs : List Value) (hown : w.ownsRow 0 e size v n xs)
    (B : Nat) (A : Option Addr) (m c : Nat) (news : List Value) (hr : Reads w B size A m news) (h1 : ∀ u ∈ news, u.oneCell' = true)
    (h63 : n + m ≤ maxLen) (hbytes : (n + m) * bytes ≤ 140737488355328) :
    ∃ v' w', (Builtin.append_ #[t, t] ty #[v, .slice A m c]).run P w = .ok v' w' ∧ w'.ownsRow 0 e size v' (n + m) (xs ++ news) ∧ w.grownBy w' v.ownBlock ∧
      (v'.ownBlock = v.ownBlock ∨ (v'.ownBlock = some w.heap.size ∧ w.grownBy w' none)) := by
  obtain ⟨v', w', hrun, h2, h3, h4⟩ := run_append_any w 0 t ty e i z size bytes ht hi hz hsize hby hzs hsz v n xs hown B A m c news hr h1 h63 hbytes (Nat.zero_le _)
  refine ⟨v', w', hrun, h2, h3, ?_⟩
  rcases h4 with h4 | h4
  · exact .inl h4
  · refine .inr ⟨h4, ?_⟩
    rcases hown.2 with ⟨rfl, rfl⟩ | ⟨g, cap, cur, rfl, hbg, hg, hnc, hcm, hcs, htake⟩
    · exact h3
    · have hlt : g < w.heap.size := by
        rcases Nat.lt_or_ge g w.heap.size with h | h
        · exact h
        · rw [Array.getElem?_eq_none h] at hg; cases hg
      rcases A with _ | ad
      · have hm : m = 0 := by
          rcases Nat.eq_zero_or_pos m with h0 | h0
          · exact h0
          · obtain ⟨ad, h, _⟩ := hr.2 h0; cases h
        subst hm
        have hn : news = [] := List.eq_nil_of_length_eq_zero (by simpa using hr.1)
        subst hn
        rw [run_append_of_nil w 0 t ty e i size ht hi _ n xs hown c] at hrun
        injection hrun with hv hw
        subst hv
        simp [Value.ownBlock] at h4
        omega
      · have hcells : ∀ j u, news[j]? = some u → w.cell? (ad.add j) = some u := by
          intro j u hu
          rcases Nat.eq_zero_or_pos m with h0 | h0
          · subst h0
            have hn : news = [] := List.eq_nil_of_length_eq_zero (by simpa using hr.1)
            subst hn
            simp at hu
          · obtain ⟨ad', h, _, hc⟩ := hr.2 h0
            injection h with h
            subst h
            exact hc j u hu
        subst hsize
        subst hby
        by_cases hroom : n + m ≤ cap
        · have hfit : n * i.size + news.length ≤ cur.size := by rw [hr.1, hcs, ← Nat.add_mul]; exact Nat.mul_le_mul_right _ hroom
          rw [run_append_room (P := P) w t ty e i ht hi g n cap cur hg ad m c news hr.1 hcells h1 hroom hfit] at hrun
          injection hrun with hv hw
          subst hv
          simp [Value.ownBlock] at h4
          omega
        · have holds : ∀ j u, xs[j]? = some u → w.cell? ((⟨g, 0, none⟩ : Addr).add j) = some u := hown.cells (g := g) rfl
          have hsmall : n + m ≤ 9223372036854775807 := by simp only [maxLen] at h63; omega
          rw [run_append_grow (P := P) w t ty e i z ht hi hz ⟨g, 0, none⟩ n cap xs hown.1 holds ad m c news hr.1 hcells (by omega) (by omega) (growslice_fits (by omega) hbytes)] at hrun
          injection hrun with hv hw
          subst hw
          exact ⟨rfl, rfl, rfl, by simp, fun k hk _ => heap_alloc_old w.drew _ hk⟩
end
section
variable {K : Nat → Prop} {w0 w w' : World} {F0 : Addr → Prop} {E E' : Env} {h h' : Nat → Option HObj}
/-- Behind an append onto what the call owns. -/
theorem R.append (r : R K w0 F0 E h w) (id : Nat) (o : HObj) (l : Loc) (ho : h id = some o) (hl : E.L id = some l) (m k g : Nat) (hm : m ≤ o.n) (hfl : o.fl ≤ m) (hg : ¬ E.G g) (fn : Nat → Nat → HV)
    (xs news : List Value) (hxs : w.ownsRow 0 o.ty o.sz (.slice (l.A.map fun b => ⟨b, 0, none⟩) m l.cap) m xs) (hx : ∀ i j, i < m → j < o.sz → ∃ u, xs[i * o.sz + j]? = some u ∧ u.oneCell' = true ∧ Rep w E u (o.f i j))
    (hnl : news.length = k * o.sz) (hne : ∀ i j, i < k → j < o.sz → ∃ u, news[i * o.sz + j]? = some u ∧ Rep w E u (fn i j)) (hn1 : ∀ u ∈ news, u.oneCell' = true) (hcap : l.cap ≤ maxLen)
    (v' : Value) (hown : w'.ownsRow 0 o.ty o.sz v' (m + k) (xs ++ news)) (hgr : w.grownBy w' (Value.slice (l.A.map fun b => ⟨b, 0, none⟩) m l.cap).ownBlock)
    (hat : v'.ownBlock = (Value.slice (l.A.map fun b => ⟨b, 0, none⟩) m l.cap).ownBlock ∨ (v'.ownBlock = some w.heap.size ∧ w.grownBy w' none)) :
    ∃ E', Ext w E w' E' ∧ R K w0 F0 E' (hset h id ⟨g, m + k, o.sz, o.ty, o.fl, cat m o.f fn⟩) w' ∧ (∀ g', E'.G g' → E.G g' ∨ g' = g) ∧ Rep w' E' v' (.os id g 0 (m + k)) := by
  obtain ⟨l1, hl1, a⟩ := r.obj id o ho
  rw [hl] at hl1
  injection hl1 with hl1
  subst hl1
  have hob : (Value.slice (l.A.map fun b => (⟨b, 0, none⟩ : Addr)) m l.cap).ownBlock = l.A := by cases l.A <;> rfl
  rw [hob] at hgr hat
  have hxl : xs.length = m * o.sz := hxs.1
  have reps : ∀ i j, i < m + k → j < o.sz → ∃ u, (xs ++ news)[i * o.sz + j]? = some u ∧ u.oneCell' = true ∧ Rep w E u (cat m o.f fn i j) := by
    intro i j hi hj
    by_cases him : i < m
    · obtain ⟨u, h1, h0, h2⟩ := hx i j him hj
      refine ⟨u, ?_, h0, by rw [cat_lt him]; exact h2⟩
      rw [List.getElem?_append_left (by rw [hxl]; exact pos_in him hj)]
      exact h1
    · obtain ⟨u, h1, h2⟩ := hne (i - m) j (by omega) hj
      refine ⟨u, ?_, hn1 u (List.mem_of_getElem? h1), by rw [cat_ge (by omega)]; exact h2⟩
      have e1 : i * o.sz = m * o.sz + (i - m) * o.sz := by rw [← Nat.add_mul]; congr 1; omega
      rw [List.getElem?_append_right (by rw [hxl]; omega), hxl, show i * o.sz + j - m * o.sz = (i - m) * o.sz + j from by omega]
      exact h1
  have hnF : ∀ k, ¬ E.F ⟨w.heap.size, k, none⟩ := fun k hk => absurd (lt_of_cell (r.frz _ hk).2) (by simp)
  obtain ⟨l', hg', hv', hA', hObj⟩ : ∃ l' : Loc, l'.g = g ∧ (∃ A c, v' = .slice A (m + k) c ∧ m + k ≤ c ∧ c ≤ maxLen ∧ (0 < m + k → ∃ b, l'.A = some b ∧ A = some ⟨b, 0 * l'.sz, none⟩) ∧ (A = l'.A.map (fun b => ⟨b, 0, none⟩) ∧ c = l'.cap)) ∧ (∀ b, l'.A = some b → l.A = some b ∨ w.heap.size ≤ b) ∧
      ∀ e : Ext w E w' (E.place id l'), ObjAt w' (E.place id l') K w0.heap.size ⟨g, m + k, o.sz, o.ty, o.fl, cat m o.f fn⟩ l' := by
    rcases hown.2 with ⟨hv, hn⟩ | ⟨b, cap, cur, hv, _, hb2, hb3, hb4, hb5, hb6⟩
    · subst hv
      refine ⟨⟨g, none, 0, o.sz⟩, rfl, ⟨none, 0, by rw [hn], by omega, by unfold maxLen; omega, fun hp => by omega, rfl, rfl⟩, (fun b hb => by cases hb), fun e => ⟨rfl, .inr rfl, rfl, a.pos, .inl ⟨rfl, rfl, hn, by show o.fl ≤ m + k; omega⟩⟩⟩
    · subst hv
      refine ⟨⟨g, some b, cap, o.sz⟩, rfl, ⟨_, cap, rfl, hb3, hb4, fun _ => ⟨b, rfl, by rw [Nat.zero_mul]⟩, rfl, rfl⟩, fun b' hb' => ?_, fun e => ⟨rfl, .inr rfl, rfl, a.pos, .inr (.inl ⟨b, cur, rfl, hb2, hb5, hb3, hb4, fun hlt => ?_, ?_, fun kk hkk => ?_, by show o.fl ≤ m + k; omega⟩)⟩⟩
      · injection hb' with hb'
        subst hb'
        rcases hat with h1 | ⟨h1, _⟩
        · exact .inl h1.symm
        · injection h1 with h1; exact .inr (Nat.le_of_eq h1.symm)
      · rcases hat with h1 | ⟨h1, _⟩
        · exact a.notK h1.symm hlt
        · have h1 : b = w.heap.size := by simpa [Value.ownBlock] using h1
          have := r.size; exact absurd hlt (by omega)
      · refine ⟨fun i j => (cur[i * o.sz + j]?).getD undef, fun i j hi hj => ?_⟩
        obtain ⟨u, h1, h0, h2⟩ := reps i j hi hj
        have h3 : cur[i * o.sz + j]? = some u := by
          rw [← hb6, List.getElem?_take] at h1
          split at h1
          · rw [← Array.getElem?_toList]; exact h1
          · cases h1
        show cur[i * o.sz + j]? = some ((cur[i * o.sz + j]?).getD undef) ∧ ((cur[i * o.sz + j]?).getD undef).oneCell' = true ∧ Rep _ _ ((cur[i * o.sz + j]?).getD undef) _
        rw [h3]
        exact ⟨rfl, h0, h2.ext e⟩
      · rcases hat with h1 | ⟨h1, _⟩
        · rcases a.at_ with ⟨h0, _⟩ | ⟨b'', cs, h1', _, _, _, _, _, _, h9⟩ | ⟨_, _, _, _, h3, _⟩
          rotate_right
          · have := h3.n; have := h3.fl; omega
          · rw [← h1] at h0; cases h0
          · rw [h1'] at h1; injection h1 with h1; subst h1; exact h9.1 kk hkk
        · injection h1 with h1; subst h1; exact absurd hkk (hnF kk)
  have hren := r.renew id o ⟨g, m + k, o.sz, o.ty, o.fl, cat m o.f fn⟩ l l' ho hl (by rw [hg']; exact hg) hgr.os hgr.tape hgr.output hgr.size (fun k hk hne => hgr.block k hk (fun e => hne e.symm)) (fun b kk hb hF => ?_) hA' hObj
  · refine ⟨E.place id l', hren.1, hren.2, fun g' hh => ?_, ?_⟩
    · rcases hh with hh | hh
      · exact .inl hh
      · exact .inr (hh.trans hg')
    · obtain ⟨A, c, rfl, h1, h2, h3, h4, h5⟩ := hv'
      refine .os A (m + k) c id g 0 (.inr hg'.symm) h1 h2 (fun hp => ?_) (fun l2 hl2 _ _ => ?_)
      · obtain ⟨b, hb, hA⟩ := h3 hp
        refine ⟨b, _, hA, fun l2 hl2 _ => ?_⟩
        rw [Env.place_L] at hl2; injection hl2 with hl2; subst hl2
        exact ⟨hb, rfl⟩
      · rw [Env.place_L] at hl2; injection hl2 with hl2; subst hl2
        exact ⟨h4, h5⟩
  · rcases hat with h1 | ⟨_, h1⟩
    · -- in place: the frozen cells lie in what stands before
      rcases a.at_ with ⟨h0, _⟩ | ⟨b'', cs, h1', hblk, hcs, _, _, _, _, h9⟩ | ⟨_, _, _, _, h3, _⟩
      rotate_right
      · have := h3.n; have := h3.fl; omega
      · rw [hb] at h0; cases h0
      · rw [hb] at h1'; injection h1' with h1'; subst h1'
        have hk := h9.1 kk hF
        have hkm : kk < m * o.sz := Nat.lt_of_lt_of_le hk (Nat.mul_le_mul_right _ hfl)
        rcases hown.2 with ⟨hv, _⟩ | ⟨b1, cap, cur, hv, _, hb2, hb3, hb4, hb5, hb6⟩
        · subst hv; rw [hb] at h1; cases h1
        · subst hv
          rw [hb] at h1
          injection h1 with h1
          simp only at h1
          subst h1
          rw [(show Blk w' b1 o.ty cur from hb2).cell, hblk.cell]
          have e1 : cur.toList[kk]? = xs[kk]? := by
            have : (xs ++ news)[kk]? = cur.toList[kk]? := by
              rw [← hb6, List.getElem?_take, if_pos (by have := Nat.mul_le_mul_right o.sz (Nat.le_add_right m k); omega)]
            rw [← this, List.getElem?_append_left (by rw [hxl]; exact hkm)]
          have e2 : cs.toList[kk]? = xs[kk]? := by
            rcases hxs.2 with ⟨hv, hm0⟩ | ⟨b2, cap2, cur2, hv, _, hc2, _, _, _, hc6⟩
            · rw [hm0] at hkm; simp at hkm
            · rw [hb] at hv
              injection hv with hv _ _
              injection hv with hv
              injection hv with hv
              subst hv
              have hcc : cur2 = cs := by
                unfold Blk at hblk
                rw [hblk] at hc2
                injection hc2 with hc2
                injection hc2 with hc2
                exact hc2.symm
              subst hcc
              rw [← hc6, List.getElem?_take, if_pos hkm]
          rw [← Array.getElem?_toList, ← Array.getElem?_toList, e1, e2]
    · exact World.cell?_of_block (h1.block b (a.lt hb) (by simp))
end
end Go.Proofs.YtijpdbjcmnpobaaDoor
