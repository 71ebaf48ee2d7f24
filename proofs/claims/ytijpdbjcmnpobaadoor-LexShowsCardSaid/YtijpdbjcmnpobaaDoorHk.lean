/-
  Literals, makes, calls, picks; how a function begins and ends. Plain lemmas, no program in sight.
-/
import Derived.Test.YtijpdbjcmnpobaaDoorHn
import Derived.Great.BuildSlice
namespace Go.Proofs.YtijpdbjcmnpobaaDoor
set_option linter.unusedSimpArgs false
set_option linter.unusedVariables false
open Go.RowKit

section
variable {P : Program} {ops : Array Oper} {ov : Nat → Option HV} {g : Nat}
variable {d : Option Tmp} {ty : TypeId} {pos : String} {af : Array Edge} {gd : Option (Nat × Bool)} {T yT : TypeId} {x y z : Operand} {hx hy : HV}

/-! A struct's literal. -/
def inr (o s k : Nat) : Bool := Nat.ble o k && Nat.blt k (o + s)
theorem inr_iff (o s k : Nat) : inr o s k = true ↔ o ≤ k ∧ k < o + s := by simp [inr, Nat.blt_eq]
def bld : List (Nat × Nat × HV) → (Nat → HV) → Nat → HV
  | [], z => z
  | (o, s, h) :: r, z => bld r (fun k => match inr o s k with | true => h.cell (k - o) | false => z k)
theorem fill_bld {w : World} {E : Env} (place : Nat → Option (Nat × Nat)) : ∀ (ps : List (Nat × Value)) (hs : List (Nat × Nat × HV)) (cells : Array Value) (z : Nat → HV),
    (∀ k, k < cells.size → ∃ u, cells[k]? = some u ∧ u.oneCell' = true ∧ Rep w E u (z k)) →
    ps.length = hs.length → (∀ (i : Nat) (p : Nat × Value) (q : Nat × Nat × HV), ps[i]? = some p → hs[i]? = some q → place p.1 = some (q.1, q.2.1) ∧ q.2.2.flat = true ∧ q.2.2.wid = q.2.1 ∧ q.1 + q.2.1 ≤ cells.size ∧ Rep w E p.2 q.2.2) →
    ∃ r, Instr.fill place cells ps = some r ∧ r.size = cells.size ∧ ∀ k, k < cells.size → ∃ u, r[k]? = some u ∧ u.oneCell' = true ∧ Rep w E u (bld hs z k)
  | [], [], cells, z, hz, _, _ => ⟨cells, rfl, rfl, hz⟩
  | [], _ :: _, _, _, _, h, _ => by simp at h
  | _ :: _, [], _, _, _, h, _ => by simp at h
  | (i, v) :: ps, (o, s, h) :: hs, cells, z, hz, hl, hp => by
    obtain ⟨h1, h2, h3, h4, h5⟩ := hp 0 (i, v) (o, s, h) rfl rfl
    simp only at h1 h2 h3 h4 h5
    obtain ⟨hsz, vs, hvs⟩ := h5.cells h2
    have hsz' : v.cells.size = s := hsz.trans h3
    unfold Instr.fill
    simp only [h1]
    rw [if_neg (by simp [hsz']; omega)]
    have hf := Great.foldl_set o v.cells.toList 0 cells
    have hfe : v.cells.zipIdx.foldl (fun cs (x : Value × Nat) => cs.setIfInBounds (o + x.2) x.1) cells = (v.cells.toList.zipIdx 0).foldl (fun cs (x : Value × Nat) => cs.setIfInBounds (o + x.2) x.1) cells := by
      rw [← Array.foldl_toList, Array.toList_zipIdx]
    have hfe' : v.cells.zipIdx.foldl (fun cs x => cs.setIfInBounds (o + x.2) x.1) cells = (v.cells.toList.zipIdx 0).foldl (fun cs (x : Value × Nat) => cs.setIfInBounds (o + x.2) x.1) cells := hfe
    generalize hc : (v.cells.toList.zipIdx 0).foldl (fun cs (x : Value × Nat) => cs.setIfInBounds (o + x.2) x.1) cells = c' at hf hfe'
    have := fill_bld (w := w) (E := E) place ps hs c' (fun k => match inr o s k with | true => h.cell (k - o) | false => z k) (fun k hk => ?_) (by simpa using hl) (fun j p q hj hq => ?_)
    · obtain ⟨r, hr1, hr2, hr3⟩ := this
      refine ⟨r, ?_, hr2.trans hf.1, fun k hk => hr3 k (by rw [hf.1]; exact hk)⟩
      rw [← hr1, ← hfe']
    · rw [hf.1] at hk
      rw [hf.2 k]
      by_cases hin : o ≤ k ∧ k < o + s
      · rw [if_pos ⟨by omega, by rw [Array.length_toList, hsz']; omega, hk⟩, Nat.add_zero, Array.getElem?_toList]
        rw [(inr_iff o s k).2 hin]
        exact ⟨_, hvs (k - o) (by rw [h3]; omega)⟩
      · rw [if_neg (by rw [Array.length_toList, hsz']; omega), show inr o s k = false from by rw [← Bool.not_eq_true, inr_iff]; exact hin]
        exact hz k hk
    · have := hp (j + 1) p q hj hq
      exact ⟨this.1, this.2.1, this.2.2.1, by rw [hf.1]; exact this.2.2.2.1, this.2.2.2.2⟩
/-- A struct type: its zero cells, and where its fields lie. -/
def stOf (P : Program) (T : TypeId) : Option (List Value × List (Nat × Nat)) :=
  match P.info? T, P.underlying T with
  | some it, some (.struct fields) =>
    match it.zero, fields.toList.mapM (fun f => (P.info? f.type).map fun i => (f.offset, i.size)) with
    | some z, some places => some (z.cells.toList, places)
    | _, _ => none
  | _, _ => none
def PartsOk (ov : Nat → Option HV) (pl : List (Nat × Nat)) (sz : Nat) : List (Nat × Operand) → List (Nat × Nat × HV) → Prop
  | [], [] => True
  | (i, x) :: ps, (o, s, h) :: hs => ovl ov x = some h ∧ pl[i]? = some (o, s) ∧ h.flat = true ∧ h.wid = s ∧ Nat.ble (o + s) sz = true ∧ PartsOk ov pl sz ps hs
  | _, _ => False
theorem PartsOk.spec {w : World} {E : Env} {ρ : Operand → Value} {pl : List (Nat × Nat)} {sz : Nat} : ∀ {ps : List (Nat × Operand)} {hs : List (Nat × Nat × HV)}, PartsOk ov pl sz ps hs → (∀ x hv, x ∈ ps.map (·.2) → ovl ov x = some hv → Rep w E (ρ x) hv) →
    (ps.map fun p => (p.1, ρ p.2)).length = hs.length ∧ ∀ (i : Nat) (p : Nat × Value) (q : Nat × Nat × HV), (ps.map fun p => (p.1, ρ p.2))[i]? = some p → hs[i]? = some q → pl.toArray[p.1]? = some (q.1, q.2.1) ∧ q.2.2.flat = true ∧ q.2.2.wid = q.2.1 ∧ q.1 + q.2.1 ≤ sz ∧ Rep w E p.2 q.2.2
  | [], [], _, _ => ⟨rfl, fun i p q h => by simp at h⟩
  | [], _ :: _, h, _ => h.elim
  | _ :: _, [], h, _ => h.elim
  | (i, x) :: ps, (o, s, h) :: hs, ⟨h1, h2, h3, h4, h5, h6⟩, hr => by
    obtain ⟨e1, e2⟩ := PartsOk.spec h6 (fun x hv hx => hr x hv (List.mem_cons_of_mem _ hx))
    refine ⟨by rw [List.map_cons, List.length_cons, List.length_cons, e1], fun j p q hp hq => ?_⟩
    cases j with
    | zero =>
      simp at hp hq
      subst hp; subst hq
      exact ⟨by simpa using h2, h3, h4, by simpa using h5, hr x h (List.mem_cons_self ..) h1⟩
    | succ j => exact e2 j p q (by simpa using hp) (by simpa using hq)
theorem hop_build {zs : List Value} {pl : List (Nat × Nat)} {n : Nat} {parts : List (Nat × Operand)} {hs : List (Nat × Nat × HV)} (hT : stOf P T = some (zs, pl)) (hn : zs.length = n) (hz1 : zs.all (·.oneCell') = true) (hp : PartsOk ov pl n parts hs) :
    HOp P ⟨d, .build T parts.toArray, ty, pos, af, gd⟩ ov g [] (.agg n (bld hs (fun j => .imm (zs.getD j undef)))) [] :=
  hop_pure fun w E ρ hr => by
    obtain ⟨e1, e2⟩ := hp.spec (w := w) (E := E) (ρ := ρ) (fun x hv hx h => hr x hv (by simpa [Op.operands] using hx) h)
    unfold stOf at hT
    split at hT
    · rename_i it fields hit hu
      split at hT
      · rename_i z places hz hpl
        injection hT with hT
        injection hT with ha hb
        subst hb
        have hzl : z.cells.size = n := by rw [← hn, ← ha, Array.length_toList]
        obtain ⟨r, hr1, hr2, hr3⟩ := fill_bld (w := w) (E := E) (places.toArray[·]?) (parts.map fun p => (p.1, ρ p.2)) hs z.cells (fun j => .imm (zs.getD j undef)) (fun k hk => by
          have hk' : k < zs.length := by rw [hn, ← hzl]; exact hk
          have e : zs.getD k undef = zs[k] := by simp [List.getD, List.getElem?_eq_getElem hk']
          refine ⟨zs[k], ?_, List.all_eq_true.1 hz1 _ (List.getElem_mem hk'), by rw [e]; exact .imm _⟩
          rw [← Array.getElem?_toList, ha, List.getElem?_eq_getElem hk']) e1 (fun i p q hp hq => by rw [hzl]; exact e2 i p q hp hq)
        have hb : P.built T (parts.toArray.map fun (i, x) => (i, ρ x)).toList = some r := by
          unfold Program.built
          simp only [hit, hu, hz, hpl]
          rw [← hr1]
          simp
        refine ⟨.agg r, by simp only [execOp, Sem.run_bind, run_build w T _ r hb, Result.andThen_ok, Sem.run_pure], ?_⟩
        have hch : ∀ k, ∃ u, k < n → r[k]? = some u ∧ u.oneCell' = true ∧ Rep w E u (bld hs (fun j => .imm (zs.getD j undef)) k) := by
          intro k
          by_cases hk : k < n
          · obtain ⟨u, hu⟩ := hr3 k (by rw [hzl]; exact hk)
            exact ⟨u, fun _ => hu⟩
          · exact ⟨undef, fun h => absurd h hk⟩
        refine .agg r n _ (fun k => (hch k).choose) (by rw [hr2, hzl]) (fun i hi => ⟨((hch i).choose_spec hi).1, ((hch i).choose_spec hi).2.1⟩) (fun i hi => ((hch i).choose_spec hi).2.2)
      · cases hT
    · cases hT

/-! A slice's literal. -/
def bsf : List HV → Nat → Nat → HV
  | [], _, _ => default
  | h :: r, i, j => match i with | 0 => h.cell j | i + 1 => bsf r i j
def ListOk (ov : Nat → Option HV) (sz : Nat) : Nat → List (Nat × Operand) → List HV → Prop
  | _, [], [] => True
  | k, (i, x) :: ps, h :: hs => i = k ∧ ovl ov x = some h ∧ h.flat = true ∧ h.wid = sz ∧ ListOk ov sz (k + 1) ps hs
  | _, _, _ => False
theorem ListOk.spec {w : World} {E : Env} {ρ : Operand → Value} {sz : Nat} : ∀ {k : Nat} {ps : List (Nat × Operand)} {hs : List HV}, ListOk ov sz k ps hs → (∀ x hv, x ∈ ps.map (·.2) → ovl ov x = some hv → Rep w E (ρ x) hv) →
    ps.length = hs.length ∧ (ps.map fun p => (p.1, ρ p.2)) = ((ps.map fun p => ρ p.2).zipIdx k).map (fun x => (x.2, x.1)) ∧ (∀ v ∈ ps.map (fun p => ρ p.2), v.cells.size = sz) ∧
      ∀ i j, i < hs.length → j < sz → ∃ v u, (ps.map fun p => ρ p.2)[i]? = some v ∧ v.cells[j]? = some u ∧ u.oneCell' = true ∧ Rep w E u (bsf hs i j)
  | _, [], [], _, _ => ⟨rfl, rfl, fun v h => by simp at h, fun i j hi => by simp at hi⟩
  | _, [], _ :: _, h, _ => h.elim
  | _, _ :: _, [], h, _ => h.elim
  | k, (i, x) :: ps, h :: hs, ⟨h1, h2, h3, h4, h5⟩, hr => by
    obtain ⟨e1, e2, e3, e4⟩ := ListOk.spec h5 (fun x hv hx => hr x hv (List.mem_cons_of_mem _ hx))
    subst h1
    obtain ⟨hsz, vs, hvs⟩ := (hr x h (List.mem_cons_self ..) h2).cells h3
    refine ⟨by simp [e1], by simp [e2], fun v hv => ?_, fun a j ha hj => ?_⟩
    · simp only [List.map_cons, List.mem_cons] at hv
      rcases hv with rfl | hv
      · rw [hsz, h4]
      · exact e3 v hv
    · cases a with
      | zero => exact ⟨ρ x, vs j, by simp, hvs j (by rw [h4]; exact hj)⟩
      | succ a =>
        obtain ⟨v, u, g1, g2⟩ := e4 a j (by simpa using ha) hj
        exact ⟨v, u, by simpa using g1, g2⟩
theorem flat_at {s : Nat} (hs : 0 < s) (vs : List Value) (h1 : ∀ v ∈ vs, v.cells.size = s) (i j : Nat) (hi : i < vs.length) (hj : j < s) : (vs.flatMap fun v => v.cells.toList).toArray[i * s + j]? = vs[i].cells[j]? := by
  induction vs generalizing i with
  | nil => simp at hi
  | cons v vs ih =>
    have hv := h1 v (List.mem_cons_self ..)
    simp only [List.flatMap_cons, List.getElem?_toArray]
    cases i with
    | zero =>
      rw [Nat.zero_mul, Nat.zero_add, List.getElem?_append_left (by rw [Array.length_toList, hv]; exact hj)]
      simp
    | succ i =>
      rw [List.getElem?_append_right (by rw [Array.length_toList, hv, Nat.add_mul]; omega), Array.length_toList, hv, show (i + 1) * s + j - s = i * s + j from by rw [Nat.add_mul]; omega]
      have := ih (fun u hu => h1 u (List.mem_cons_of_mem _ hu)) i (by simpa using hi)
      simpa using this
theorem hop_buildSlice {id e s by_ n : Nat} {parts : List (Nat × Operand)} {hs : List HV} (hT : elInfo P T = some (e, s, by_, true)) (hs0 : 0 < s) (hn : hs.length = n) (hsm : n * s ≤ 16777216) (hp : ListOk ov s 0 parts hs) :
    HOp P ⟨d, .buildSlice T n parts.toArray, ty, pos, af, gd⟩ ov g [] (.os id g 0 n) [(id, ⟨g, n, s, e, 0, bsf hs⟩)] := by
  intro K w0 F0 E hh a w Q N r ht hG hBd hpre hN
  obtain ⟨e1, e2, e3, e4⟩ := hp.spec (w := w) (E := E) (ρ := a.eval) (fun x hv hx h => ht x hv (by simpa [Op.operands] using hx) h)
  obtain ⟨hu, i, z, hi, hz, his, hib, hzs, _⟩ := elInfo_spec hT
  have hpe : (parts.toArray.map fun (i, x) => (i, a.eval x)).toList = parts.map fun p => (p.1, a.eval p.2) := by simp
  have hvl : (parts.map fun p => a.eval p.2).length = n := by rw [List.length_map, e1, hn]
  have hnm : n ≤ maxLen := by
    have : n * 1 ≤ n * s := Nat.mul_le_mul_left _ hs0
    unfold maxLen; omega
  have key : ∀ cs : Array Value, cs.size = n * s → (∀ a' j, a' < n → j < s → ∃ u, cs[a' * s + j]? = some u ∧ u.oneCell' = true ∧ Rep w E u (bsf hs a' j)) →
      (Instr.buildSlice T n (parts.toArray.map fun (i, x) => (i, a.eval x))).run P w = .ok (.slice (some ⟨w.heap.size, 0, none⟩) n n) (w.alloc (.cells cs e)) → Oper.wp P ⟨d, .buildSlice T n parts.toArray, ty, pos, af, gd⟩ a w N Q := by
    intro cs hcs hrep hrun
    have hch : ∀ a' j, ∃ u, a' < n → j < s → cs[a' * s + j]? = some u ∧ u.oneCell' = true ∧ Rep w E u (bsf hs a' j) := by
      intro a' j
      by_cases h1 : a' < n
      · by_cases h2 : j < s
        · obtain ⟨u, hu⟩ := hrep a' j h1 h2
          exact ⟨u, fun _ _ => hu⟩
        · exact ⟨undef, fun _ h => absurd h h2⟩
      · exact ⟨undef, fun h => absurd h h1⟩
    have hnew := r.new id g n s e cs (bsf hs) n (fun a' j => (hch a' j).choose) hG hs0 hcs (Nat.le_refl _) hnm (fun a' j h1 h2 => (hch a' j).choose_spec h1 h2)
    refine wp_val (v := .slice (some ⟨w.heap.size, 0, none⟩) n n) (w' := w.alloc (.cells cs e)) ?_ (hN _ _ _ hnew.1 hnew.2 (fun g' hg' => hg'.imp (fun h => h) fun h => ⟨by simp, h⟩) ?_)
    · simp only [execOp, Sem.run_bind, hrun, Result.andThen_ok, Sem.run_pure]
    · refine .os _ n n id g 0 (.inr rfl) (Nat.le_refl _) hnm (fun _ => ⟨_, _, rfl, fun l hl _ => ?_⟩) (fun l hl _ _ => ?_)
      · rw [Env.new_L] at hl; injection hl with hl; subst hl
        exact ⟨rfl, by simp⟩
      · rw [Env.new_L] at hl; injection hl with hl; subst hl
        exact ⟨rfl, rfl⟩
  by_cases hn0 : n = 0
  · subst hn0
    refine key #[] (by simp) (fun a' j h => absurd h (Nat.not_lt_zero _)) ?_
    have hpn : parts = [] := List.eq_nil_of_length_eq_zero (by rw [e1, hn])
    subst hpn
    simp [Instr.buildSlice, run_underlying hu, sizeOf, typeInfo, hi, Instr.fill, newRow, show Array.range 0 = #[] from rfl]
  · have hw := Great.fill_whole hs0 (parts.map fun p => a.eval p.2) ((Array.range (n * i.size)).map (z.cells[· % z.cells.size]!)) e3 (by rw [hvl, Array.size_map, Array.size_range, his])
    have hrun := run_buildSlice (P := P) w T e n (parts.toArray.map fun (i, x) => (i, a.eval x)) _ i z hu hi hz (by rw [his]; omega) (by rw [his]; exact Nat.mul_ne_zero hn0 (by omega)) (by rw [hpe, e2, his]; rw [his] at hw; exact hw)
    refine key _ ?_ ?_ hrun
    · have : ∀ vs : List Value, (∀ v ∈ vs, v.cells.size = s) → (vs.flatMap fun v => v.cells.toList).length = vs.length * s := by
        intro vs
        induction vs with
        | nil => intro _; simp
        | cons v vs ih => intro h; simp [List.flatMap_cons, ih (fun u hu => h u (List.mem_cons_of_mem _ hu)), h v (List.mem_cons_self ..), Nat.add_mul, Nat.add_comm]
      rw [List.size_toArray, this _ e3, hvl]
    · intro a' j h1 h2
      obtain ⟨v, u, g1, g2, g3⟩ := e4 a' j (by rw [hn]; exact h1) h2
      refine ⟨u, ?_, g3⟩
      have hlt : a' < (parts.map fun p => a.eval p.2).length := by rw [hvl]; exact h1
      rw [flat_at hs0 _ e3 a' j hlt h2]
      rw [List.getElem?_eq_getElem hlt] at g1
      injection g1 with g1
      rw [g1]; exact g2

theorem hop_make {id e s by_ : Nat} {kl kc : IntKind} {l c : Int} {n m : Nat} (hT : elInfo P T = some (e, s, by_, true)) (hs0 : 0 < s) (hby : by_ ≤ 1000) (h1 : ovl ov x = some (.imm (.int kl l))) (h2 : ovl ov y = some (.imm (.int kc c))) (hl : l = (n : Int)) (hc : c = (m : Int)) (hnm : n ≤ m) (hm : m ≤ 1000000) (hsm : m * s ≤ 16777216) {zs : List Value} (hz : ((P.info? e).bind (·.zero)).map (fun z => z.cells.toList) = some zs) :
    HOp P ⟨d, .makeSlice T x y, ty, pos, af, gd⟩ ov g [] (.os id g 0 n) [(id, ⟨g, n, s, e, 0, fun _ j => .imm (zs.getD j undef)⟩)] := by
  intro K w0 F0 E hh a w Q N r ht hG hBd hpre hN
  have e1 := Rep.imm_inv (ht x _ (by simp [Op.operands]) h1)
  have e2 := Rep.imm_inv (ht y _ (by simp [Op.operands]) h2)
  obtain ⟨hu, i, z, hi, hz0, his, hib, hzs, hz1⟩ := elInfo_spec hT
  simp only [hi, hz0, Option.bind_some, Option.map_some] at hz
  injection hz with hz
  subst hl; subst hc
  have hb : (i.bytes : Int) * (m : Int) ≤ 281474976710656 := by
    have : i.bytes * m ≤ 1000 * 1000000 := Nat.mul_le_mul (by omega) hm
    have h2 : (i.bytes : Int) * (m : Int) = ((i.bytes * m : Nat) : Int) := by simp
    rw [h2]; omega
  have hrun := run_make (P := P) w T e i z hu hi hz0 kl kc (n : Int) (m : Int) (by omega) (by omega) hb (by omega)
  simp only [Int.toNat_natCast] at hrun
  have hzl : zs.length = s := by rw [← hz, Array.length_toList, hzs]
  have hcell : ∀ k, k < m * s → (madeCells z.cells (m * i.size))[k]? = some (zs.getD (k % s) undef) := by
    intro k hk
    have hks : k % s < s := Nat.mod_lt _ hs0
    have e3 : zs.getD (k % s) undef = zs[k % s] := by simp [List.getD, List.getElem?_eq_getElem (show k % s < zs.length by omega)]
    rw [e3]
    subst hz
    simp only [madeCells, Array.getElem?_map, Array.getElem?_range, his, hk, if_true, Option.map_some, hzs]
    congr 1
    rw [getElem!_pos z.cells (k % s) (by omega)]
    simp
  have hnew := r.new id g m s e (madeCells z.cells (m * i.size)) (fun _ j => .imm (zs.getD j undef)) n (fun _ j => zs.getD j undef) hG hs0 (by rw [size_madeCells, his]) hnm (by unfold maxLen; omega) (fun a' j ha hj => by
    have hlt := pos_in (sz := s) (show a' < m by omega) hj
    refine ⟨?_, ?_, .imm _⟩
    · rw [hcell _ hlt, Nat.mul_comm, Nat.mul_add_mod, Nat.mod_eq_of_lt hj]
    · have hjl : j < zs.length := by omega
      have e3 : zs.getD j undef = zs[j] := by simp [List.getD, List.getElem?_eq_getElem hjl]
      rw [e3]
      have := Array.all_eq_true_iff_forall_mem.1 hz1
      have h6 : ∀ u ∈ zs, u ∈ z.cells := by intro u hu; rw [← hz] at hu; simpa using hu
      exact this _ (h6 _ (List.getElem_mem hjl)))
  refine wp_val (v := .slice (some ⟨w.heap.size, 0, none⟩) n m) (w' := w.alloc (.cells (madeCells z.cells (m * i.size)) e)) ?_ (hN _ _ _ hnew.1 hnew.2 (fun g' hg' => hg'.imp (fun h => h) fun h => ⟨by simp, h⟩) ?_)
  · simp only [execOp, e1, e2, Sem.run_bind, hrun, Result.andThen_ok, Sem.run_pure]
  · refine .os _ n m id g 0 (.inr rfl) hnm (by unfold maxLen; omega) (fun _ => ⟨_, _, rfl, fun l hl _ => ?_⟩) (fun l hl _ _ => ?_)
    · rw [Env.new_L] at hl; injection hl with hl; subst hl
      exact ⟨rfl, by simp⟩
    · rw [Env.new_L] at hl; injection hl with hl; subst hl
      exact ⟨rfl, rfl⟩

/-! Calls. -/
def ovAll (ov : Nat → Option HV) : List Operand → List HV → Prop
  | [], [] => True
  | x :: xs, h :: hs => ovl ov x = some h ∧ ovAll ov xs hs
  | _, _ => False
theorem ovAll.rep {w : World} {E : Env} {ρ : Operand → Value} : ∀ {xs : List Operand} {hs : List HV}, ovAll ov xs hs → (∀ x hv, x ∈ xs → ovl ov x = some hv → Rep w E (ρ x) hv) → RepAll w E (xs.map ρ) hs
  | [], [], _, _ => trivial
  | x :: xs, h :: hs, h1, hr => ⟨hr x h (List.mem_cons_self ..) h1.1, ovAll.rep h1.2 (fun y hv hy => hr y hv (List.mem_cons_of_mem _ hy))⟩
  | [], _ :: _, h, _ => h.elim
  | _ :: _, [], h, _ => h.elim
theorem run_callFunc {f : FuncId} (h : FnOk P f) (args : Array Value) (w : World) : (callFunc f args).run P w = .ok (.enter f args) w := by
  obtain ⟨fn, c, hf, hb, hn⟩ := h
  have hn' : ¬ fn.name = "runtime.NumGoroutine" := by simpa using hn
  unfold callFunc
  simp [Sem.run_bind, program, Sem.run, hf, hb, hn']
theorem hop_call {f : FuncId} {args : List Operand} {at_ : Array TypeId} {xs ys : List HV} {r : HV} (sh : List (Nat × HObj)) (hp : HPure P f ys r) (hx : ovAll ov args xs) (hz : FzAll sh xs ys) (hd : dupfree (sh.map (·.1)) = true) :
    HOp P ⟨d, .call ⟨.value (.func f), args.toArray, at_⟩, ty, pos, af, gd⟩ ov g sh r (sh.map fun p => (p.1, p.2.full)) := by
  intro K w0 F0 E hh a w Q N rr ht hG hBd hpre hN
  have hrep := hx.rep (w := w) (E := E) (ρ := a.eval) (fun x hv hx h => ht x hv (by simp [Op.operands, Call.operands]; exact .inr hx) h)
  unfold Oper.wp execOp
  have hargs : args.toArray.map a.eval = (args.map a.eval).toArray := by simp
  simp only [resolve, Act.eval, Deferred.ofValue, invoke, Sem.run_bind, Sem.run_pure, Result.andThen_ok, Array.empty_append, Array.append_empty]
  rw [run_callFunc hp.1]
  simp only [Oper.upon]
  have hc := hp.calls rr sh hd hpre xs (args.map a.eval) hz hrep
  rw [← hargs] at hc
  refine Calls.mono hc ?_
  rintro e w' ⟨v, E', rfl, e', r', hg', hv⟩
  exact hN v w' E' e' r' (fun g' h => .inl (hg' g' h)) hv
theorem hop_call0 {f : FuncId} {args : List Operand} {at_ : Array TypeId} {xs ys : List HV} {r : HV} (hp : HPure P f ys r) (hx : ovAll ov args xs) (hz : FzAll [] xs ys) : HOp P ⟨d, .call ⟨.value (.func f), args.toArray, at_⟩, ty, pos, af, gd⟩ ov g [] r [] := hop_call [] hp hx hz rfl
/-- A closure's call. -/
theorem hop_callv {f : FuncId} {t : Nat} {n : Nat} {caps : Nat → HV} {args : List Operand} {at_ : Array TypeId} {xs cs ys : List HV} {r : HV} (sh : List (Nat × HObj)) (hp : HPure P f ys r) (h0 : ovl ov (.tmp t) = some (.fn (.func f) n caps)) (hcs : cs.length = n) (hci : ∀ i, i < n → cs[i]? = some (caps i)) (hx : ovAll ov args xs) (hz : FzAll sh (xs ++ cs) ys) (hd : dupfree (sh.map (·.1)) = true) :
    HOp P ⟨d, .call ⟨.value (.tmp t), args.toArray, at_⟩, ty, pos, af, gd⟩ ov g sh r (sh.map fun p => (p.1, p.2.full)) := by
  intro K w0 F0 E hh a w Q N rr ht hG hBd hpre hN
  have hrep := hx.rep (w := w) (E := E) (ρ := a.eval) (fun x hv hx h => ht x hv (by simp [Op.operands, Call.operands]; exact .inr hx) h)
  have hfn := ht (.tmp t) _ (by simp [Op.operands, Call.operands]) h0
  unfold Oper.wp execOp
  generalize hρ : a.eval (.tmp t) = u at hfn
  cases hfn with
  | fn _ vcs _ _ vs hn hv hr =>
    have hcap : RepAll w E vcs.toList cs := by
      have : ∀ (l : List Value) (m : List HV) (k : Nat), l.length = m.length → (∀ i, i < l.length → ∃ v x, l[i]? = some v ∧ m[i]? = some x ∧ Rep w E v x) → RepAll w E l m := by
        intro l
        induction l with
        | nil => intro m k hl _; cases m with | nil => trivial | cons _ _ => simp at hl
        | cons v l ih =>
          intro m k hl h
          cases m with
          | nil => simp at hl
          | cons x m =>
            obtain ⟨v', x', h1, h2, h3⟩ := h 0 (by simp)
            simp at h1 h2
            subst h1; subst h2
            exact ⟨h3, ih m k (by simpa using hl) (fun i hi => by have := h (i + 1) (by simpa using hi); simpa using this)⟩
      refine this _ _ 0 (by rw [Array.length_toList, hn, hcs]) (fun i hi => ?_)
      rw [Array.length_toList, hn] at hi
      exact ⟨vs i, caps i, by rw [Array.getElem?_toList]; exact hv i hi, hci i hi, hr i hi⟩
    have hargs : args.toArray.map a.eval ++ vcs = (args.map a.eval ++ vcs.toList).toArray := by
      apply Array.ext'
      simp
    have happ : RepAll w E (args.map a.eval ++ vcs.toList) (xs ++ cs) := by
      have : ∀ (l : List Value) (m : List HV), RepAll w E l m → RepAll w E (l ++ vcs.toList) (m ++ cs) := by
        intro l
        induction l with
        | nil => intro m h; cases m with | nil => exact hcap | cons _ _ => exact h.elim
        | cons v l ih =>
          intro m h
          cases m with
          | nil => exact h.elim
          | cons x m => exact ⟨h.1, ih m h.2⟩
      exact this _ _ hrep
    simp only [resolve, hρ, Deferred.ofValue, invoke, Sem.run_bind, Sem.run_pure, Result.andThen_ok, Array.empty_append]
    rw [run_callFunc hp.1]
    simp only [Oper.upon]
    have hc := hp.calls rr sh hd hpre (xs ++ cs) _ hz happ
    rw [← hargs] at hc
    refine Calls.mono hc ?_
    rintro e w' ⟨v, E', rfl, e', r', hg', hv⟩
    exact hN v w' E' e' r' (fun g' h => .inl (hg' g' h)) hv
theorem hop_callv0 {f : FuncId} {t : Nat} {n : Nat} {caps : Nat → HV} {args : List Operand} {at_ : Array TypeId} {xs cs ys : List HV} {r : HV} (hp : HPure P f ys r) (h0 : ovl ov (.tmp t) = some (.fn (.func f) n caps)) (hcs : cs.length = n) (hci : ∀ i, i < n → cs[i]? = some (caps i)) (hx : ovAll ov args xs) (hz : FzAll [] (xs ++ cs) ys) :
    HOp P ⟨d, .call ⟨.value (.tmp t), args.toArray, at_⟩, ty, pos, af, gd⟩ ov g [] r [] := hop_callv [] hp h0 hcs hci hx hz rfl
theorem hop_min {k : IntKind} {a b : Int} {at_ : Array TypeId} (h1 : ovl ov x = some (.imm (.int k a))) (h2 : ovl ov y = some (.imm (.int k b))) : HOp P ⟨d, .call ⟨.builtin .min, #[x, y], at_⟩, ty, pos, af, gd⟩ ov g [] (.imm (.int k (if b < a then b else a))) [] :=
  hop_pure fun w E ρ hr => by
    have e1 := Rep.imm_inv (hr x _ (by simp [Op.operands, Call.operands]) h1)
    have e2 := Rep.imm_inv (hr y _ (by simp [Op.operands, Call.operands]) h2)
    exact ⟨_, by simp [execOp, resolve, invoke, builtin, Builtin.min_, Builtin.min2, e1, e2], .imm _⟩
theorem hop_max {k : IntKind} {a b : Int} {at_ : Array TypeId} (h1 : ovl ov x = some (.imm (.int k a))) (h2 : ovl ov y = some (.imm (.int k b))) : HOp P ⟨d, .call ⟨.builtin .max, #[x, y], at_⟩, ty, pos, af, gd⟩ ov g [] (.imm (.int k (if b > a then b else a))) [] :=
  hop_pure fun w E ρ hr => by
    have e1 := Rep.imm_inv (hr x _ (by simp [Op.operands, Call.operands]) h1)
    have e2 := Rep.imm_inv (hr y _ (by simp [Op.operands, Call.operands]) h2)
    exact ⟨_, by simp [execOp, resolve, invoke, builtin, Builtin.max_, Builtin.max2, e1, e2], .imm _⟩
/-- The value of a struct's field. -/
theorem hop_makeFunc {f : FuncId} {caps : List Operand} {hs : List HV} (hx : ovAll ov caps hs) : HOp P ⟨d, .makeFunc (.func f) #[] caps.toArray, ty, pos, af, gd⟩ ov g [] (.fn (.func f) hs.length (fun i => hs.getD i default)) [] :=
  hop_pure fun w E ρ hr => by
    have hrep := hx.rep (w := w) (E := E) (ρ := ρ) (fun x hv hx h => hr x hv (by simpa [Op.operands] using hx) h)
    refine ⟨.func (.func f) #[] (caps.toArray.map ρ), by simp [execOp, Instr.makeFunc], ?_⟩
    have : ∀ (l : List Value) (m : List HV), RepAll w E l m → l.length = m.length ∧ ∀ i, i < m.length → ∃ v, l[i]? = some v ∧ Rep w E v (m.getD i default) := by
      intro l
      induction l with
      | nil => intro m h; cases m with | nil => exact ⟨rfl, fun i hi => by simp at hi⟩ | cons _ _ => exact h.elim
      | cons v l ih =>
        intro m h
        cases m with
        | nil => exact h.elim
        | cons x m =>
          obtain ⟨i1, i2⟩ := ih m h.2
          refine ⟨by simp [i1], fun i hi => ?_⟩
          cases i with
          | zero => exact ⟨v, rfl, h.1⟩
          | succ i => exact i2 i (by simpa using hi)
    obtain ⟨i1, i2⟩ := this _ _ hrep
    refine .fn _ _ _ _ (fun i => (caps.map ρ).getD i undef) (by rw [← i1]; simp) (fun i hi => ?_) (fun i hi => ?_)
    · obtain ⟨v, hv, _⟩ := i2 i hi
      have : (caps.map ρ).getD i undef = v := by simp [List.getD, hv]
      rw [this]
      have e : (caps.toArray.map ρ)[i]? = (caps.map ρ)[i]? := by simp
      rw [e, hv]
    · obtain ⟨v, hv, h⟩ := i2 i hi
      have : (caps.map ρ).getD i undef = v := by simp [List.getD, hv]
      rw [this]; exact h
end

/-! A pick between two ways. -/
section
variable {P : Program} {ops : Array Oper} {g : Nat} {d : Option Tmp} {ty : TypeId} {pos : String} {af : Array Edge}
theorem hstep_pick {tm : Nat → Option TV} {j : Nat} {x y : Operand} (c : Bool) (hx hy v : HV) (hc : tm j = some (.v (.imm (.bool c)))) (h1 : ovl (gview tm j true) x = some hx) (h2 : ovl (gview tm j false) y = some hy) (hv1 : c = true → Sb hx v) (hv2 : c = false → Sb hy v) :
    HStep P ops ⟨d, .pick (.tmp j) x y, ty, pos, af, none⟩ tm g ⟨.v v, j :: ops_tmps ⟨d, .pick (.tmp j) x y, ty, pos, af, none⟩, [], []⟩ := by
  intro K w0 F0 E hh a w Q N r ht hG hBd hp hN
  rw [if_pos (by simp [Region.wanted])]
  have hj : a.eval (.tmp j) = .bool c := Rep.imm_inv (ht j _ (List.mem_cons_self ..) hc)
  have look : ∀ (b : Bool) (z : Operand) (h : HV), c = b → z ∈ (Op.pick (.tmp j) x y).operands.toList → ovl (gview tm j b) z = some h → Rep w E (a.eval z) h := by
    intro b z h hb hz ho
    subst hb
    cases z with
    | tmp t => exact gview_sound hj (fun y hy => ht j y (List.mem_cons_self ..) hy) (fun y hy => ht t y (List.mem_cons_of_mem _ (mem_tmps hz)) hy) ho
    | const v => exact rep_cst w E _ v _ ho
    | global k => injection ho with ho; subst ho; exact .imm _
    | func f => injection ho with ho; subst ho; exact .fn (.func f) #[] 0 _ (fun _ => undef) rfl (fun i hi => absurd hi (Nat.not_lt_zero _)) (fun i hi => absurd hi (Nat.not_lt_zero _))
  refine wp_val (v := if c = true then a.eval x else a.eval y) (w' := w) ?_ (hN _ w E (Ext.refl _ _) r (fun _ h => .inl h) ?_)
  · cases c <;> simp [execOp, hj, asBool]
  · cases c with
    | true => exact (hv1 rfl).sound (look true x hx rfl (by simp [Op.operands]) h1)
    | false => exact (hv2 rfl).sound (look false y hy rfl (by simp [Op.operands]) h2)
theorem hstep_or {tm : Nat → Option TV} {j : Nat} {x y : Operand} (c b : Bool) (hc : tm j = some (.v (.imm (.bool c)))) (h1 : ovl (gview tm j true) x = some (.imm (.bool true))) (h2 : ovl (gview tm j false) y = some (.imm (.bool b))) :
    HStep P ops ⟨d, .pick (.tmp j) x y, ty, pos, af, none⟩ tm g ⟨.v (.imm (.bool (c || b))), j :: ops_tmps ⟨d, .pick (.tmp j) x y, ty, pos, af, none⟩, [], []⟩ :=
  hstep_pick c _ _ _ hc h1 h2 (fun h => by subst h; exact .refl _) (fun h => by subst h; exact .refl _)
theorem hstep_and {tm : Nat → Option TV} {j : Nat} {x y : Operand} (c b : Bool) (hc : tm j = some (.v (.imm (.bool c)))) (h1 : ovl (gview tm j true) x = some (.imm (.bool b))) (h2 : ovl (gview tm j false) y = some (.imm (.bool false))) :
    HStep P ops ⟨d, .pick (.tmp j) x y, ty, pos, af, none⟩ tm g ⟨.v (.imm (.bool (c && b))), j :: ops_tmps ⟨d, .pick (.tmp j) x y, ty, pos, af, none⟩, [], []⟩ :=
  hstep_pick c _ _ _ hc h1 h2 (fun h => by subst h; exact .refl _) (fun h => by subst h; exact .refl _)
end
end Go.Proofs.YtijpdbjcmnpobaaDoor
