/-
  Slices made, cut, grown; structs built; functions called: operations in the reader's words. Plain lemmas, no program in sight.
-/
import Derived.Test.YtijpdbjcmnpobaaDoorHm
namespace Go.Proofs.YtijpdbjcmnpobaaDoor
set_option linter.unusedSimpArgs false
set_option linter.unusedVariables false
open Go.RowKit

section
variable {P : Program} {ops : Array Oper} {ov : Nat → Option HV} {g : Nat}
variable {d : Option Tmp} {ty : TypeId} {pos : String} {af : Array Edge} {gd : Option (Nat × Bool)} {T yT : TypeId} {x y z : Operand} {hx hy : HV}

/-! A reslice. -/
def loB : Option HV → Option Int
  | none => some 0
  | some (.imm (.int _ l)) => some l
  | _ => none
theorem cutA_rep (A : Option Addr) (c lo sz : Nat) : cutA A c lo sz = if c = lo then A else A.map (·.add (lo * sz)) := rfl
theorem run_cut {e : TypeId} {s : Nat} (hT : elOf P T = some (e, s)) (w : World) (A : Option Addr) (n c : Nat) (lo hi : Option Value) (l h : Int) (hl : lo = none ∧ l = 0 ∨ ∃ k, lo = some (.int k l)) (hh : hi = none ∧ h = n ∨ ∃ k, hi = some (.int k h)) (h0 : 0 ≤ l) (h1 : l ≤ h) (h2 : h ≤ n) (hc : n ≤ c) :
    (Instr.sliceAt T (.slice A n c) lo hi none).run P w = .ok (.slice (cutA A c l.toNat s) (h - l).toNat (c - l.toNat)) w := by
  obtain ⟨hu, hs⟩ := elOf_spec hT
  have hb : (Instr.sliceBounds true n c lo hi none).run P w = .ok (l.toNat, h.toNat, c) w := by
    unfold Instr.sliceBounds
    rcases hl with ⟨rfl, rfl⟩ | ⟨k, rfl⟩ <;> rcases hh with ⟨rfl, rfl⟩ | ⟨k', rfl⟩
    · simp
    · have a1 := fun code => sliceBound_in (P := P) w k' h c code (by omega) (by omega)
      simp [a1]
    · have a1 := fun code => sliceBound_in (P := P) w k l n code (by omega) (by omega)
      simp [a1]
    · have a1 := fun code => sliceBound_in (P := P) w k' h c code (by omega) (by omega)
      have a2 := fun code => sliceBound_in (P := P) w k l h.toNat code (by omega) (by omega)
      simp [a1, a2]
  unfold Instr.sliceAt Instr.slice
  simp only [Sem.run_bind, run_underlying hu, Result.andThen_ok, hb, hs, Sem.run_pure]
  rw [show h.toNat - l.toNat = (h - l).toNat from by omega]
  rfl
theorem hop_cut_sl {e : TypeId} {s n : Nat} {f : Nat → Nat → HV} {lo hi : Option Operand} {l h : Int} (hT : elOf P T = some (e, s)) (h1 : ovl ov x = some (.sl s n f))
    (hl : lo = none ∧ l = 0 ∨ ∃ k z, lo = some z ∧ ovl ov z = some (.imm (.int k l))) (hh : hi = none ∧ h = n ∨ ∃ k z, hi = some z ∧ ovl ov z = some (.imm (.int k h))) (h0 : 0 ≤ l) (hlh : l ≤ h) (hn : h ≤ n) :
    HOp P ⟨d, .slice T x lo hi none, ty, pos, af, gd⟩ ov g [] (.sl s (h - l).toNat (fun i j => f (l.toNat + i) j)) [] :=
  hop_pure fun w E ρ hr => by
    have hX := hr x _ (by simp [Op.operands]) h1
    have e1 : lo.map ρ = none ∧ l = 0 ∨ ∃ k, lo.map ρ = some (.int k l) := by
      rcases hl with ⟨rfl, rfl⟩ | ⟨k, z, rfl, hz⟩
      · exact .inl ⟨rfl, rfl⟩
      · exact .inr ⟨k, by have := Rep.imm_inv (hr z _ (by simp [Op.operands]) hz); simp [this]⟩
    have e2 : hi.map ρ = none ∧ h = n ∨ ∃ k, hi.map ρ = some (.int k h) := by
      rcases hh with ⟨rfl, rfl⟩ | ⟨k, z, rfl, hz⟩
      · exact .inl ⟨rfl, rfl⟩
      · exact .inr ⟨k, by have := Rep.imm_inv (hr z _ (by simp [Op.operands]) hz); simp [this]⟩
    generalize hρ : ρ x = u at hX
    cases hX with
    | sl A _ c _ _ vs hc hm hA hrep =>
      have hcut := run_cut hT w A n c _ _ l h e1 e2 h0 hlh hn hc
      refine ⟨.slice (cutA A c l.toNat s) (h - l).toNat (c - l.toNat), by simp only [execOp, hρ, Option.map_none, Sem.run_bind, hcut, Result.andThen_ok, Sem.run_pure], ?_⟩
      have q1 : l.toNat + (h - l).toNat ≤ n := by omega
      generalize (h - l).toNat = m at q1 ⊢
      generalize l.toNat = l' at q1 ⊢
      refine .sl _ _ _ s _ (fun i j => vs (l' + i) j) (by omega) (by omega) (fun hp => ?_) (fun i j hi hj => hrep _ _ (by omega) hj)
      obtain ⟨b, o, rfl, hlt, hcell⟩ := hA (by omega)
      refine ⟨b, o + l' * s, ?_, hlt, fun i j hi hj => ?_⟩
      · rw [cutA, if_neg (by omega)]; simp [add_off]
      · rw [show o + l' * s + (i * s + j) = o + ((l' + i) * s + j) from by rw [Nat.add_mul]; omega]
        exact hcell _ _ (by omega) hj
theorem hop_cut_os {e : TypeId} {id gg lo0 n s : Nat} {o : HObj} {lo hi : Option Operand} {l h : Int} (hT : elOf P T = some (e, s)) (h1 : ovl ov x = some (.os id gg lo0 n)) (hg : o.g = gg) (hsz : o.sz = s)
    (hl : lo = none ∧ l = 0 ∨ ∃ k z, lo = some z ∧ ovl ov z = some (.imm (.int k l))) (hh : hi = none ∧ h = n ∨ ∃ k z, hi = some z ∧ ovl ov z = some (.imm (.int k h))) (h0 : 0 ≤ l) (hlh : l ≤ h) (hn : h ≤ n) :
    HOp P ⟨d, .slice T x lo hi none, ty, pos, af, gd⟩ ov g [(id, o)] (.os id gg (lo0 + l.toNat) (h - l).toNat) [] :=
  hop_read fun K w0 F0 E hh' w ρ r ho hr => by
    have hX := hr x _ (by simp [Op.operands]) h1
    have e1 : lo.map ρ = none ∧ l = 0 ∨ ∃ k, lo.map ρ = some (.int k l) := by
      rcases hl with ⟨rfl, rfl⟩ | ⟨k, z, rfl, hz⟩
      · exact .inl ⟨rfl, rfl⟩
      · exact .inr ⟨k, by have := Rep.imm_inv (hr z _ (by simp [Op.operands]) hz); simp [this]⟩
    have e2 : hi.map ρ = none ∧ h = n ∨ ∃ k, hi.map ρ = some (.int k h) := by
      rcases hh with ⟨rfl, rfl⟩ | ⟨k, z, rfl, hz⟩
      · exact .inl ⟨rfl, rfl⟩
      · exact .inr ⟨k, by have := Rep.imm_inv (hr z _ (by simp [Op.operands]) hz); simp [this]⟩
    obtain ⟨l1, hl1, a⟩ := r.obj id o ho
    generalize hρ : ρ x = u at hX
    cases hX with
    | os A _ c _ _ _ hgg hc hm hA hz =>
      have hcut := run_cut hT w A n c _ _ l h e1 e2 h0 hlh hn hc
      have hls : l1.sz = s := a.sz.trans hsz
      refine ⟨.slice (cutA A c l.toNat s) (h - l).toNat (c - l.toNat), by simp only [execOp, hρ, Option.map_none, Sem.run_bind, hcut, Result.andThen_ok, Sem.run_pure], ?_⟩
      refine .os _ _ _ id gg _ hgg (by omega) (by omega) (fun hp => ?_) (fun l2 hl2 hlg2 hz0 => ?_)
      · obtain ⟨b, k', rfl, hl2⟩ := hA (by omega)
        refine ⟨b, k' + l.toNat * s, ?_, fun l2 hl3 hlg => ?_⟩
        · rw [cutA, if_neg (by omega)]
          simp [add_off]
        · obtain ⟨h1, rfl⟩ := hl2 l2 hl3 hlg
          rw [hl1] at hl3; injection hl3 with hl3; subst hl3
          exact ⟨h1, by rw [hls, Nat.add_mul]⟩
      · obtain ⟨hz1, hz2⟩ := hz l2 hl2 hlg2 (by omega)
        have : l.toNat = 0 := by omega
        rw [this, cutA_zero]
        exact ⟨hz1, by omega⟩
theorem hop_cut_str {sb : ByteArray} {lo hi : Option Operand} {l h : Int} (hT : P.underlying T = some .string) (h1 : ovl ov x = some (.imm (.string sb)))
    (hl : lo = none ∧ l = 0 ∨ ∃ k z, lo = some z ∧ ovl ov z = some (.imm (.int k l))) (hh : hi = none ∧ h = sb.size ∨ ∃ k z, hi = some z ∧ ovl ov z = some (.imm (.int k h))) (h0 : 0 ≤ l) (hlh : l ≤ h) (hn : h ≤ sb.size) :
    HOp P ⟨d, .slice T x lo hi none, ty, pos, af, gd⟩ ov g [] (.imm (.string (sb.extract l.toNat h.toNat))) [] :=
  hop_pure fun w E ρ hr => by
    have hX := Rep.imm_inv (hr x _ (by simp [Op.operands]) h1)
    have e1 : lo.map ρ = none ∧ l = 0 ∨ ∃ k, lo.map ρ = some (.int k l) := by
      rcases hl with ⟨rfl, rfl⟩ | ⟨k, z, rfl, hz⟩
      · exact .inl ⟨rfl, rfl⟩
      · exact .inr ⟨k, by have := Rep.imm_inv (hr z _ (by simp [Op.operands]) hz); simp [this]⟩
    have e2 : hi.map ρ = none ∧ h = sb.size ∨ ∃ k, hi.map ρ = some (.int k h) := by
      rcases hh with ⟨rfl, rfl⟩ | ⟨k, z, rfl, hz⟩
      · exact .inl ⟨rfl, rfl⟩
      · exact .inr ⟨k, by have := Rep.imm_inv (hr z _ (by simp [Op.operands]) hz); simp [this]⟩
    have hb : (Instr.sliceBounds false sb.size sb.size (lo.map ρ) (hi.map ρ) none).run P w = .ok (l.toNat, h.toNat, sb.size) w := by
      unfold Instr.sliceBounds
      rcases e1 with ⟨h1, rfl⟩ | ⟨k, h1⟩ <;> rcases e2 with ⟨h2, rfl⟩ | ⟨k', h2⟩
      · rw [h1, h2]; simp
      · have a1 := fun code => sliceBound_in (P := P) w k' h sb.size code (by omega) (by omega)
        rw [h1, h2]; simp [a1]
      · have a1 := fun code => sliceBound_in (P := P) w k l sb.size code (by omega) (by omega)
        rw [h1, h2]; simp [a1]
      · have a1 := fun code => sliceBound_in (P := P) w k' h sb.size code (by omega) (by omega)
        have a2 := fun code => sliceBound_in (P := P) w k l h.toNat code (by omega) (by omega)
        rw [h1, h2]; simp [a1, a2]
    refine ⟨_, ?_, .imm _⟩
    simp only [execOp, hX, Option.map_none, Instr.sliceAt, Instr.slice, Sem.run_bind, run_underlying hT, Result.andThen_ok, Option.isSome_none, Bool.false_eq_true, if_false, Sem.run_pure, hb]

/-! What comes behind an append. -/
/-- The operand yields k elements of sz cells that read as fn. -/
def SrcOf (ov : Nat → Option HV) (y : Operand) (sz k : Nat) (pre : List (Nat × HObj)) (fn : Nat → Nat → HV) : Prop :=
  ∀ K w0 F0 E h (w : World) (u : Value), R K w0 F0 E h w → (∀ p ∈ pre, h p.1 = some p.2) → (∀ hv, ovl ov y = some hv → Rep w E u hv) →
    ∃ A c news, u = .slice A k c ∧ Reads w w.heap.size sz A k news ∧ (∀ u ∈ news, u.oneCell' = true) ∧ ∀ i j, i < k → j < sz → ∃ u, news[i * sz + j]? = some u ∧ Rep w E u (fn i j)
def rowOf (sz k : Nat) (vs : Nat → Nat → Value) : List Value := (List.range (k * sz)).map fun p => vs (p / sz) (p % sz)
theorem rowOf_length (sz k : Nat) (vs : Nat → Nat → Value) : (rowOf sz k vs).length = k * sz := by simp [rowOf]
theorem rowOf_get {sz k : Nat} {vs : Nat → Nat → Value} {i j : Nat} (hi : i < k) (hj : j < sz) : (rowOf sz k vs)[i * sz + j]? = some (vs i j) := by
  have hlt := pos_in (sz := sz) hi hj
  unfold rowOf
  rw [List.getElem?_map, List.getElem?_range hlt]
  have h1 : (i * sz + j) / sz = i := by rw [Nat.mul_comm, Nat.mul_add_div (by omega), Nat.div_eq_of_lt hj]; omega
  have h2 : (i * sz + j) % sz = j := by rw [Nat.mul_comm, Nat.mul_add_mod, Nat.mod_eq_of_lt hj]
  simp [h1, h2]
theorem rowOf_split {sz k : Nat} {vs : Nat → Nat → Value} {p : Nat} {u : Value} (h : (rowOf sz k vs)[p]? = some u) : ∃ i j, i < k ∧ j < sz ∧ p = i * sz + j ∧ u = vs i j := by
  have hp : p < k * sz := by
    rcases Nat.lt_or_ge p (rowOf sz k vs).length with h1 | h1
    · rwa [rowOf_length] at h1
    · rw [List.getElem?_eq_none h1] at h; cases h
  have hs : 0 < sz := Nat.pos_of_ne_zero (fun h0 => by subst h0; simp at hp)
  refine ⟨p / sz, p % sz, (Nat.div_lt_iff_lt_mul hs).2 hp, Nat.mod_lt _ hs, ?_, ?_⟩
  · rw [Nat.mul_comm]; exact (Nat.div_add_mod p sz).symm
  · have e1 : p = p / sz * sz + p % sz := by rw [Nat.mul_comm]; exact (Nat.div_add_mod p sz).symm
    have := rowOf_get (sz := sz) (k := k) (vs := vs) ((Nat.div_lt_iff_lt_mul hs).2 hp) (Nat.mod_lt p hs)
    rw [← e1, h] at this
    injection this
theorem src_sl {s n : Nat} {f : Nat → Nat → HV} (h1 : ovl ov y = some (.sl s n f)) : SrcOf ov y s n [] f := by
  intro K w0 F0 E h w u r hp hr
  have hX := hr _ h1
  cases hX with
  | sl A _ c _ _ vs hc hm hA hrep =>
    refine ⟨A, c, rowOf s n vs, rfl, ⟨rowOf_length _ _ _, fun hn => ?_⟩, fun u hu => ?_, fun i j hi hj => ⟨_, rowOf_get hi hj, hrep i j hi hj⟩⟩
    · obtain ⟨b, o, rfl, hlt, hcell⟩ := hA hn
      refine ⟨_, rfl, hlt, fun p u hu => ?_⟩
      obtain ⟨i, j, hi, hj, rfl, rfl⟩ := rowOf_split hu
      rw [add_off]
      exact (hcell i j hi hj).2.1
    · obtain ⟨p, hp, rfl⟩ := List.mem_iff_getElem.1 hu
      obtain ⟨i, j, hi, hj, _, e⟩ := rowOf_split (List.getElem?_eq_getElem hp)
      rw [e]
      obtain ⟨b, o, rfl, hlt, hcell⟩ := hA (by omega)
      exact (hcell i j hi hj).2.2
theorem src_nil {A : Option Addr} {c : Nat} (s : Nat) (f : Nat → Nat → HV) (h1 : ovl ov y = some (.imm (.slice A 0 c))) : SrcOf ov y s 0 [] f := by
  intro K w0 F0 E h w u r hp hr
  have := Rep.imm_inv (hr _ h1)
  subst this
  exact ⟨A, c, [], rfl, ⟨by simp, fun h => absurd h (Nat.lt_irrefl _)⟩, (fun u hu => by cases hu), fun i j hi => absurd hi (Nat.not_lt_zero _)⟩
theorem src_os {id gg lo n s : Nat} {o : HObj} (h1 : ovl ov y = some (.os id gg lo n)) (hg : o.g = gg) (hsz : o.sz = s) (hn : lo + n ≤ o.n) : SrcOf ov y s n [(id, o)] (fun i j => o.f (lo + i) j) := by
  intro K w0 F0 E h w u r hp hr
  have hX := hr _ h1
  have ho := hp _ (List.mem_cons_self ..)
  simp only at ho
  obtain ⟨l, hl, a⟩ := r.obj id o ho
  cases hX with
  | os A _ c _ _ _ hgg hc hm hA _ =>
    by_cases hn0 : n = 0
    · subst hn0
      exact ⟨A, c, [], rfl, ⟨by simp, fun h => absurd h (Nat.lt_irrefl _)⟩, (fun u hu => by cases hu), fun i j hi => absurd hi (Nat.not_lt_zero _)⟩
    · obtain ⟨b, k', rfl, hl2⟩ := hA (by omega)
      obtain ⟨hb, rfl⟩ := hl2 l hl (a.g.trans hg)
      rcases a.at_ with ⟨h0, _⟩ | ⟨b', cs, g1, g2, g3, g4, g5, g6, ⟨vs, g8⟩, g9⟩ | ⟨_, _, _, _, h3, _⟩
      rotate_right
      · have := h3.n; omega
      · rw [h0] at hb; cases hb
      · rw [g1] at hb; injection hb with hb; subst hb
        refine ⟨_, c, rowOf s n (fun i j => vs (lo + i) j), rfl, ⟨rowOf_length _ _ _, fun _ => ⟨_, rfl, g2.lt, fun p u hu => ?_⟩⟩, fun u hu => ?_, fun i j hi hj => ⟨_, rowOf_get hi hj, (g8 (lo + i) j (by omega) (by omega)).2.2⟩⟩
        · obtain ⟨i, j, hi, hj, rfl, rfl⟩ := rowOf_split hu
          rw [add_off, g2.cell, a.sz, show lo * o.sz + (i * s + j) = (lo + i) * o.sz + j from by rw [Nat.add_mul, hsz]; omega]
          exact (g8 (lo + i) j (by omega) (by omega)).1
        · obtain ⟨p, hp, rfl⟩ := List.mem_iff_getElem.1 hu
          obtain ⟨i, j, hi, hj, _, e⟩ := rowOf_split (List.getElem?_eq_getElem hp)
          rw [e]
          exact (g8 (lo + i) j (by omega) (by omega)).2.1

/-- An element type's row of the table, as the laws of append and make ask it. -/
def elInfo (P : Program) (T : TypeId) : Option (TypeId × Nat × Nat × Bool) :=
  match P.underlying T with
  | some (.slice e) => (P.info? e).bind fun i => i.zero.map fun z => (e, i.size, i.bytes, Nat.beq z.cells.size i.size && z.cells.all (·.oneCell'))
  | _ => none
theorem elInfo_spec {T e : TypeId} {s by_ : Nat} (h : elInfo P T = some (e, s, by_, true)) : P.underlying T = some (.slice e) ∧ ∃ i z, P.info? e = some i ∧ i.zero = some z ∧ i.size = s ∧ i.bytes = by_ ∧ z.cells.size = s ∧ z.cells.all (·.oneCell') = true := by
  unfold elInfo at h
  split at h
  · rename_i e' hu
    obtain ⟨i, hi, h⟩ := Option.bind_eq_some_iff.1 h
    obtain ⟨z, hz, h⟩ := Option.map_eq_some_iff.1 h
    injection h with h1 h2
    injection h2 with h2 h3
    injection h3 with h3 h4
    subst h1
    simp only [Bool.and_eq_true, Nat.beq_eq] at h4
    exact ⟨hu, i, z, hi, hz, h2, h3, h4.1.trans h2, h4.2⟩
  · cases h
theorem hop_append {id gg m k s by_ : Nat} {e : TypeId} {o : HObj} {pre : List (Nat × HObj)} {fn : Nat → Nat → HV} (hT : elInfo P T = some (e, s, by_, true)) (hby : by_ ≤ 1000) (h1 : ovl ov x = some (.os id gg 0 m)) (hg : o.g = gg) (hsz : o.sz = s) (hty : o.ty = e) (hm : m ≤ o.n) (hfl : o.fl ≤ m)
    (hsrc : SrcOf ov y s k pre fn) (hk : m + k ≤ 2000000000) :
    HOp P ⟨d, .call ⟨.builtin .append, #[x, y], #[T, T]⟩, ty, pos, af, gd⟩ ov g ((id, o) :: pre) (.os id g 0 (m + k)) [(id, ⟨g, m + k, o.sz, o.ty, o.fl, cat m o.f fn⟩)] := by
  intro K w0 F0 E hh a w Q N r ht hG hBd hpre hN
  have ho := hpre _ (List.mem_cons_self ..)
  simp only at ho
  have hX := ht x _ (by simp [Op.operands, Call.operands]) h1
  obtain ⟨A, c, news, hy, hrd, hone, hnew⟩ := hsrc K w0 F0 E hh w (a.eval y) r (fun p hp => hpre p (List.mem_cons_of_mem _ hp)) (fun hv h => ht y hv (by simp [Op.operands, Call.operands]) h)
  obtain ⟨hu, i, z, hi, hz, his, hib, hzs, _⟩ := elInfo_spec hT
  obtain ⟨l, xs, hl, hown, hcap, hxs⟩ := r.owns ho m hm hfl
  obtain ⟨l', hl', at_⟩ := r.obj id o ho
  rw [hl] at hl'; injection hl' with hl'; subst hl'
  have hp := at_.pos
  subst hsz; subst hty
  generalize hρ : a.eval x = u at hX
  cases hX with
  | os A1 _ c1 _ _ _ hgg hc hmm hA hz0 =>
    obtain ⟨rfl, rfl⟩ := hz0 l hl (at_.g.trans hg) rfl
    have hb : (m + k) * by_ ≤ 140737488355328 := by have := Nat.mul_le_mul hk hby; omega
    obtain ⟨v', w', hrun, h2, h3, h4⟩ := run_append_obj (P := P) w T ty o.ty i z o.sz by_ hu hi hz his hib hzs hp _ m xs hown w.heap.size A k c news hrd hone (by unfold maxLen; omega) hb
    obtain ⟨E', e', r', hg', hrep⟩ := r.append id o l ho hl m k g hm hfl hG fn xs news hown hxs hrd.1 hnew hone hcap v' h2 h3 h4
    refine wp_val (v := v') (w' := w') ?_ (hN v' w' E' e' r' (fun g' h => (hg' g' h).imp (fun h => h) fun h => ⟨by simp, h⟩) hrep)
    simp only [execOp, resolve, invoke, builtin, Sem.run_bind, Sem.run_pure, Result.andThen_ok, List.map_toArray, List.map_cons, List.map_nil, hρ, hy, hrun]
theorem hol_cut_os {e oty : TypeId} {id gg lo0 n s m fl : Nat} {f : Nat → Nat → HV} {lo hi : Option Operand} {l h : Int} (hT : elOf P T = some (e, s)) (h1 : ovl ov x = some (.os id gg lo0 n))
    (hl : lo = none ∧ l = 0 ∨ ∃ k z, lo = some z ∧ ovl ov z = some (.imm (.int k l))) (hh : hi = none ∧ h = n ∨ ∃ k z, hi = some z ∧ ovl ov z = some (.imm (.int k h))) (h0 : 0 ≤ l) (hlh : l ≤ h) (hn : h ≤ n) :
    HOp P ⟨d, .slice T x lo hi none, ty, pos, af, gd⟩ ov g [(id, ⟨gg, m, s, oty, fl, f⟩)] (.os id gg (lo0 + l.toNat) (h - l).toNat) [] := hop_cut_os (o := ⟨gg, m, s, oty, fl, f⟩) hT h1 rfl rfl hl hh h0 hlh hn
theorem srl_os {id gg lo n s m fl : Nat} {oty : TypeId} {f : Nat → Nat → HV} (h1 : ovl ov y = some (.os id gg lo n)) (hn : lo + n ≤ m) : SrcOf ov y s n [(id, ⟨gg, m, s, oty, fl, f⟩)] (fun i j => f (lo + i) j) := src_os (o := ⟨gg, m, s, oty, fl, f⟩) h1 rfl rfl hn
theorem srl_os0 {id gg n s m fl : Nat} {oty : TypeId} {f : Nat → Nat → HV} (h1 : ovl ov y = some (.os id gg 0 n)) (hn : n ≤ m) : SrcOf ov y s n [(id, ⟨gg, m, s, oty, fl, f⟩)] f := by
  have := src_os (o := ⟨gg, m, s, oty, fl, f⟩) h1 rfl rfl (by simpa using hn)
  simpa using this
theorem hol_append {id gg m k s by_ n fl : Nat} {e : TypeId} {f : Nat → Nat → HV} {pre : List (Nat × HObj)} {fn : Nat → Nat → HV} (hT : elInfo P T = some (e, s, by_, true)) (hby : by_ ≤ 1000) (h1 : ovl ov x = some (.os id gg 0 m)) (hm : m ≤ n) (hfl : fl ≤ m)
    (hsrc : SrcOf ov y s k pre fn) (hk : m + k ≤ 2000000000) {m' : Nat} (hm' : m + k = m') :
    HOp P ⟨d, .call ⟨.builtin .append, #[x, y], #[T, T]⟩, ty, pos, af, gd⟩ ov g ((id, ⟨gg, n, s, e, fl, f⟩) :: pre) (.os id g 0 m') [(id, ⟨g, m', s, e, fl, cat m f fn⟩)] := by
  subst hm'; exact hop_append (o := ⟨gg, n, s, e, fl, f⟩) hT hby h1 rfl rfl rfl hm hfl hsrc hk
end
end Go.Proofs.YtijpdbjcmnpobaaDoor
