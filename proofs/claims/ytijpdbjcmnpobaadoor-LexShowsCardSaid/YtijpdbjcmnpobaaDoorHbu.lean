/-
  From the world's words to the reader's: what was shown of slices in memory, as contracts of the second kind.
-/
import Derived.Test.YtijpdbjcmnpobaaDoorHu
namespace Go.Proofs.YtijpdbjcmnpobaaDoor
set_option linter.unusedSimpArgs false
set_option linter.unusedVariables false
open Go.RowKit

theorem sl_of {α : Type} {w : World} {E : Env} {v : Value} (sz : Nat) (enc : α → List Value) (henc : ∀ x, (enc x).length = sz) (encF : α → Nat → HV) (hF : ∀ x j, j < sz → encF x j = .imm ((enc x).getD j undef)) (d : α) (l : List α)
    (h : Rep w E v (.sl sz l.length (fun i => encF (l.getD i d)))) : ∃ A c, v = .slice A l.length c ∧ l.length ≤ c ∧ c ≤ maxLen ∧ Sl w w.heap.size sz enc A l := by
  cases h with
  | sl A _ c _ _ vs hc hm hA h =>
    refine ⟨A, c, rfl, hc, hm, henc, flatMap_len henc l, fun hn => ?_⟩
    obtain ⟨b, o, rfl, hlt, hcell⟩ := hA hn
    refine ⟨_, rfl, hlt, fun p u hu => ?_⟩
    have hp : p < l.length * sz := by
      rcases Nat.lt_or_ge p (l.flatMap enc).length with h1 | h1
      · rwa [flatMap_len henc] at h1
      · rw [List.getElem?_eq_none h1] at hu; cases hu
    have hs : 0 < sz := Nat.pos_of_ne_zero (fun h0 => by subst h0; simp at hp)
    have hi : p / sz < l.length := (Nat.div_lt_iff_lt_mul hs).2 hp
    have hj : p % sz < sz := Nat.mod_lt _ hs
    have e1 : p = p / sz * sz + p % sz := by rw [Nat.mul_comm]; exact (Nat.div_add_mod p sz).symm
    rw [add_off, e1, (hcell _ _ hi hj).2.1]
    rw [e1, flatMap_at henc l _ _ hi hj] at hu
    have hr : Rep w E (vs (p / sz) (p % sz)) (encF (l.getD (p / sz) d) (p % sz)) := h _ _ hi hj
    rw [hF _ _ hj] at hr
    have hv := hr.imm_inv
    rw [hv]
    have hg : l.getD (p / sz) d = l[p / sz] := by simp [List.getD, List.getElem?_eq_getElem hi]
    rw [hg]
    have : (enc l[p / sz]).getD (p % sz) undef = u := by simp [List.getD, hu]
    rw [this]
theorem arr10 {cs : Array Value} (h : cs.size = 10) (vs : Nat → Value) (hv : ∀ i, i < 10 → cs[i]? = some (vs i)) : cs = #[vs 0, vs 1, vs 2, vs 3, vs 4, vs 5, vs 6, vs 7, vs 8, vs 9] := by
  apply Array.ext_getElem?
  intro i
  by_cases hi : i < 10
  · rw [hv i hi]
    match i, hi with
    | 0, _ => rfl | 1, _ => rfl | 2, _ => rfl | 3, _ => rfl | 4, _ => rfl | 5, _ => rfl | 6, _ => rfl | 7, _ => rfl | 8, _ => rfl | 9, _ => rfl
  · rw [Array.getElem?_eq_none (by omega), Array.getElem?_eq_none (by simp; omega)]
theorem pure_imm {w w' : World} {F : Addr → Prop} {u : Value} (hF : ∀ a, F a → a.spot = none ∧ (w.cell? a).isSome = true) (hb : Below w.heap.size w w') : PurePost w F (.imm u) (.returned u) w' :=
  ⟨hb, u, F, rfl, fun _ h => h, fun _ h => .inl h, fun a ha => ⟨(hF a ha).1, by rw [World.cell?_of_block (hb.block _ (lt_of_cell (hF a ha).2))]; exact (hF a ha).2⟩, .imm u⟩
theorem below_drews {w : World} {n : Nat} : Below w.heap.size w (w.drewN n) := below_drewN (Below.refl _ _) n
/-- A new slice that a call gives. -/
theorem gives_pure {α : Type} {w w' : World} {F : Addr → Prop} (hF : ∀ a, F a → a.spot = none ∧ (w.cell? a).isSome = true) {e : TypeId} {sz : Nat} {enc : α → List Value} (encF : α → Nat → HV) (hFe : ∀ x j, j < sz → encF x j = .imm ((enc x).getD j undef)) (h1 : ∀ x, ∀ u ∈ enc x, u.oneCell' = true) (d : α) {l : List α} {en : Ending}
    (h : GivesSl e sz enc w l en w') : PurePost w F (.sl sz l.length (fun i => encF (l.getD i d))) en w' := by
  obtain ⟨A, c, rfl, hown, hb⟩ := h
  have henc := hown.1
  have hFk : ∀ a, F a → (w'.cell? a) = w.cell? a := fun a ha => World.cell?_of_block (hb.block _ (lt_of_cell (hF a ha).2))
  rcases hown.2.2 with ⟨hv, hn⟩ | ⟨b, cap, cur, hv, hbase, hblk, hn, hcap, hsz, htake⟩
  · injection hv with hA _ hc
    subst hA; subst hc
    have hl : l = [] := List.eq_nil_of_length_eq_zero hn
    subst hl
    refine ⟨hb, _, F, rfl, fun _ h => h, fun _ h => .inl h, fun a ha => ⟨(hF a ha).1, by rw [hFk a ha]; exact (hF a ha).2⟩, ?_⟩
    exact .sl _ 0 0 sz _ (fun _ _ => undef) (Nat.le_refl _) (Nat.zero_le _) (fun h => absurd h (Nat.lt_irrefl _)) (fun i j hi => absurd hi (Nat.not_lt_zero _))
  · injection hv with hA _ hc
    subst hA; subst hc
    have hB : Blk w' b e cur := hblk
    have hcell : ∀ i j, i < l.length → j < sz → w'.cell? ⟨b, i * sz + j, none⟩ = some ((enc (l.getD i d)).getD j undef) := by
      intro i j hi hj
      have hlt := pos_in (sz := sz) hi hj
      have hg : l.getD i d = l[i] := by simp [List.getD, List.getElem?_eq_getElem hi]
      have hj' : j < (enc l[i]).length := by rw [henc]; exact hj
      have hg2 : (enc l[i]).getD j undef = (enc l[i])[j] := by simp [List.getD, List.getElem?_eq_getElem hj']
      rw [hB.cell, hg, hg2, ← Array.getElem?_toList]
      have := flatMap_at henc l i j hi hj
      rw [← htake, List.getElem?_take, if_pos hlt] at this
      rw [this, List.getElem?_eq_getElem hj']
    refine ⟨hb, _, fun a => F a ∨ (a.block = b ∧ a.spot = none ∧ a.off < l.length * sz), rfl, fun _ h => .inl h, fun a ha => ?_, fun a ha => ?_, ?_⟩
    · rcases ha with ha | ⟨ha, _⟩
      · exact .inl ha
      · exact .inr (by rw [ha]; exact hbase)
    · rcases ha with ha | ⟨ha, hs, ho⟩
      · exact ⟨(hF a ha).1, by rw [hFk a ha]; exact (hF a ha).2⟩
      · obtain ⟨ab, ao, asp⟩ := a
        simp only at ha hs ho
        subst ha; subst hs
        refine ⟨rfl, ?_⟩
        have : ao < cur.size := by rw [hsz]; exact Nat.lt_of_lt_of_le ho (Nat.mul_le_mul_right _ hn)
        rw [hB.cell, Array.getElem?_eq_getElem this]; rfl
    · refine .sl _ _ _ sz _ (fun i j => (enc (l.getD i d)).getD j undef) hn hcap (fun hp => ⟨b, 0, rfl, hB.lt, fun i j hi hj => ?_⟩) (fun i j hi hj => by show Rep _ _ _ (encF _ _); rw [hFe _ _ hj]; exact .imm _)
      rw [Nat.zero_add]
      refine ⟨.inr ⟨rfl, rfl, pos_in hi hj⟩, hcell i j hi hj, ?_⟩
      have hj' : j < (enc (l.getD i d)).length := by rw [henc]; exact hj
      have hg2 : (enc (l.getD i d)).getD j undef = (enc (l.getD i d))[j] := by rw [List.getD_eq_getElem?_getD, List.getElem?_eq_getElem hj']; rfl
      rw [hg2]
      exact h1 _ _ (List.getElem_mem hj')
theorem rep1 {w : World} {E : Env} {vs : List Value} {x : HV} (h : RepAll w E vs [x]) : ∃ v, vs = [v] ∧ Rep w E v x := by
  match vs, h with
  | [v], h => exact ⟨v, rfl, h.1⟩
theorem rep2 {w : World} {E : Env} {vs : List Value} {x y : HV} (h : RepAll w E vs [x, y]) : ∃ u v, vs = [u, v] ∧ Rep w E u x ∧ Rep w E v y := by
  match vs, h with
  | [u, v], h => exact ⟨u, v, rfl, h.1, h.2.1⟩

/-! What comes in: all that is there is frozen. -/
def allF (w : World) (a : Addr) : Prop := a.spot = none ∧ (w.cell? a).isSome = true
theorem rep_sl {α : Type} {w : World} {B : Nat} {A : Option Addr} {c : Nat} (sz : Nat) (hs : 0 < sz) (enc : α → List Value) (enc1 : ∀ x, ∀ u ∈ enc x, u.oneCell' = true) (encF : α → Nat → HV) (d : α) (l : List α) (hc : l.length ≤ c) (hm : c ≤ maxLen) (h : Sl w B sz enc A l)
    (hr : ∀ i j, i < l.length → j < sz → Rep w (Env.just (allF w)) ((enc (l.getD i d)).getD j undef) (encF (l.getD i d) j)) : Rep w (Env.just (allF w)) (.slice A l.length c) (.sl sz l.length (fun i => encF (l.getD i d))) := by
  refine .sl A l.length c sz _ (fun i j => (enc (l.getD i d)).getD j undef) hc hm (fun hn => ?_) hr
  obtain ⟨b, o, rfl, hb⟩ := h.addr hn hs
  have cell : ∀ i j, i < l.length → j < sz → w.cell? ⟨b, o + (i * sz + j), none⟩ = some ((enc (l.getD i d)).getD j undef) ∧ ((enc (l.getD i d)).getD j undef).oneCell' = true := by
    intro i j hi hj
    have := h.cell_ hi j hj
    have hg : l.getD i d = l[i] := by rw [List.getD_eq_getElem?_getD, List.getElem?_eq_getElem hi]; rfl
    have hj' : j < (enc l[i]).length := by rw [h.1]; exact hj
    have hg2 : (enc l[i]).getD j undef = (enc l[i])[j] := by rw [List.getD_eq_getElem?_getD, List.getElem?_eq_getElem hj']; rfl
    rw [hg, hg2, show o + (i * sz + j) = o + i * sz + j from by omega, this, List.getElem?_eq_getElem hj']
    exact ⟨rfl, enc1 _ _ (List.getElem_mem hj')⟩
  have hlt : b < w.heap.size := by
    have := (cell 0 0 hn hs).1
    exact World.block_lt_of_cell? w _ this
  exact ⟨b, o, rfl, hlt, fun i j hi hj => ⟨⟨rfl, by rw [(cell i j hi hj).1]; rfl⟩, (cell i j hi hj).1, (cell i j hi hj).2⟩⟩
/-- A law's call returns true. -/
theorem law_walk {P : Program} {f : FuncId} {xs : List HV} (h : HPure P f xs (boolV true)) (w : World) (vs : List Value) (hr : RepAll w (Env.just (allF w)) vs xs) (hw : LibW w) : Calls P f vs.toArray w fun e w' => e = .returned (.bool true) ∧ Below w.heap.size w w' := by
  refine (h.2 w (allF w) vs (fun a h => h) hr hw).mono ?_
  rintro e w' ⟨hb, v, F', rfl, _, _, _, hv⟩
  rw [hv.imm_inv]
  exact ⟨rfl, hb⟩
end Go.Proofs.YtijpdbjcmnpobaaDoor
