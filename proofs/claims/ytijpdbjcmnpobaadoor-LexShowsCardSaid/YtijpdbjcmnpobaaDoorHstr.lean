/-
  Strings as lists of bytes: what each operation gives. Plain lemmas, no program in sight.
-/
import Derived.Test.YtijpdbjcmnpobaaDoorHd
import Derived.Laws.IdiomStrings
namespace Go.Proofs.YtijpdbjcmnpobaaDoor
set_option linter.unusedSimpArgs false
set_option linter.unusedVariables false
open Go.RowKit

@[reducible] def strV (l : List UInt8) : HV := .imm (.string ⟨l.toArray⟩)
@[reducible] def u8V (c : UInt8) : HV := .imm (.int .u8 (c.toNat : Int))
@[reducible] def bytesV (l : List UInt8) : HV := .sl 1 l.length (fun i _ => u8V (l.getD i 0))
theorem ba_list (l : List UInt8) : (⟨l.toArray⟩ : ByteArray).toList = l := by rw [ByteArray.toList_eq]
theorem ba_size (l : List UInt8) : (⟨l.toArray⟩ : ByteArray).size = l.length := by simp [ByteArray.size]
theorem ba_eta (s : ByteArray) : s = ⟨s.data.toList.toArray⟩ := by cases s; rfl
theorem ba_app (l m : List UInt8) : (⟨l.toArray⟩ ++ ⟨m.toArray⟩ : ByteArray) = ⟨(l ++ m).toArray⟩ := by
  have h : (⟨l.toArray⟩ ++ ⟨m.toArray⟩ : ByteArray).data = (l ++ m).toArray := by
    apply Array.ext'
    rw [ByteArray.data_append, Array.toList_append]
  have h2 : (⟨l.toArray⟩ ++ ⟨m.toArray⟩ : ByteArray) = ⟨(⟨l.toArray⟩ ++ ⟨m.toArray⟩ : ByteArray).data⟩ := rfl
  rw [h2, h]
theorem ba_cut (l : List UInt8) (a b : Nat) : (⟨l.toArray⟩ : ByteArray).extract a b = ⟨((l.drop a).take (b - a)).toArray⟩ := by
  have h : ((⟨l.toArray⟩ : ByteArray).extract a b).data = ((l.drop a).take (b - a)).toArray := by
    apply Array.ext'
    rw [ByteArray.data_extract]
    simp [Array.toList_extract, List.extract, List.drop_take]
  have h2 : (⟨l.toArray⟩ : ByteArray).extract a b = ⟨((⟨l.toArray⟩ : ByteArray).extract a b).data⟩ := rfl
  rw [h2, h]

section
variable {K : Nat → Prop} {w0 w : World} {F0 : Addr → Prop} {E : Env} {h : Nat → Option HObj}
/-- More is frozen: the cells of a block that no object lies in. -/
theorem R.frzMore (r : R K w0 F0 E h w) (b m : Nat) (hK : b < w0.heap.size → ¬ K b) (hb : b < w.heap.size) (hc : ∀ i, i < m → (w.cell? ⟨b, i, none⟩).isSome = true) (hno : ∀ id o l, h id = some o → E.L id = some l → l.A = some b → False) :
    Ext w E w ⟨fun a => E.F a ∨ ∃ i, i < m ∧ a = ⟨b, i, none⟩, E.L, E.G⟩ ∧ R K w0 F0 ⟨fun a => E.F a ∨ ∃ i, i < m ∧ a = ⟨b, i, none⟩, E.L, E.G⟩ h w := by
  have e : Ext w E w ⟨fun a => E.F a ∨ ∃ i, i < m ∧ a = ⟨b, i, none⟩, E.L, E.G⟩ := ⟨Nat.le_refl _, fun a ha => ⟨.inl ha, rfl⟩, fun _ hg => hg, fun _ _ hl _ => hl⟩
  refine ⟨e, r.os, r.tape, r.output, r.size, r.keep, fun a ha => ?_, fun a ha => ?_, r.klib, r.lib, fun id o ho => ?_, r.inj⟩
  · rcases ha with ha | ⟨i, hi, rfl⟩
    · exact r.frz a ha
    · exact ⟨rfl, hc i hi⟩
  · rcases ha with ha | ⟨i, hi, rfl⟩
    · exact r.fnew a ha
    · by_cases hlt : b < w0.heap.size
      · exact .inr (.inr (hK hlt))
      · exact .inr (.inl (by simpa using hlt))
  · obtain ⟨l, hl, a⟩ := r.obj id o ho
    refine ⟨l, hl, a.ext e (fun _ _ => rfl) (fun b' k hb' hF => ?_)⟩
    rcases hF with hF | ⟨i, hi, he⟩
    · exact hF
    · injection he with he; subst he
      exact (hno id o l ho hl hb').elim
end

section
variable {P : Program} {ov : Nat → Option HV} {g : Nat} {d : Option Tmp} {ty T yT : TypeId} {pos : String} {af : Array Edge} {gd : Option (Nat × Bool)} {x y : Operand} {l m : List UInt8}
theorem hop_len_strl {at_ : Array TypeId} (hT : at_[0]? = some T) (hE : P.underlying T = some .string) (h1 : ovl ov x = some (strV l)) :
    HOp P ⟨d, .call ⟨.builtin .len, #[x], at_⟩, ty, pos, af, gd⟩ ov g [] (.imm (.int .i64 (l.length : Int))) [] := by
  have := hop_len_str (P := P) (ov := ov) (g := g) (d := d) (ty := ty) (pos := pos) (af := af) (gd := gd) hT hE h1
  rwa [ba_size] at this
theorem hop_ix_strl {k : IntKind} {i : Int} (hT : P.underlying T = some .string) (h1 : ovl ov x = some (strV l)) (h2 : ovl ov y = some (.imm (.int k i))) (hi0 : 0 ≤ i) (hi : i < (l.length : Int)) :
    HOp P ⟨d, .index T x y, ty, pos, af, gd⟩ ov g [] (u8V (l.getD i.toNat 0)) [] :=
  hop_ix_str hT h1 h2 hi0 (by rw [ba_size]; exact hi)
theorem hop_cut_strl {lo hi : Option Operand} {a b : Int} (hT : P.underlying T = some .string) (h1 : ovl ov x = some (strV l))
    (hl : lo = none ∧ a = 0 ∨ ∃ k z, lo = some z ∧ ovl ov z = some (.imm (.int k a))) (hh : hi = none ∧ b = l.length ∨ ∃ k z, hi = some z ∧ ovl ov z = some (.imm (.int k b))) (h0 : 0 ≤ a) (hlh : a ≤ b) (hn : b ≤ l.length) :
    HOp P ⟨d, .slice T x lo hi none, ty, pos, af, gd⟩ ov g [] (strV ((l.drop a.toNat).take (b.toNat - a.toNat))) [] := by
  have := hop_cut_str (P := P) (ov := ov) (g := g) (d := d) (ty := ty) (pos := pos) (af := af) (gd := gd) hT h1 hl (by rw [ba_size]; exact hh) h0 hlh (by rw [ba_size]; exact hn)
  rwa [ba_cut] at this
theorem hop_seq_l (h1 : ovl ov x = some (strV l)) (h2 : ovl ov y = some (strV m)) : HOp P ⟨d, .binOp .eql T x y yT, ty, pos, af, gd⟩ ov g [] (.imm (.bool (decide (l = m)))) [] := by
  have := hop_seq_ (P := P) (T := T) (yT := yT) (g := g) (d := d) (ty := ty) (pos := pos) (af := af) (gd := gd) h1 h2
  rw [ba_list, ba_list] at this
  have e : (l == m) = decide (l = m) := by rw [Bool.eq_iff_iff]; simp
  rwa [e] at this
theorem hop_sne_l (h1 : ovl ov x = some (strV l)) (h2 : ovl ov y = some (strV m)) : HOp P ⟨d, .binOp .neq T x y yT, ty, pos, af, gd⟩ ov g [] (.imm (.bool (!(decide (l = m))))) [] := by
  have := hop_sne (P := P) (T := T) (yT := yT) (g := g) (d := d) (ty := ty) (pos := pos) (af := af) (gd := gd) h1 h2
  rw [ba_list, ba_list] at this
  have e : (l == m) = decide (l = m) := by rw [Bool.eq_iff_iff]; simp
  rwa [e] at this
theorem hop_catl (h1 : ovl ov x = some (strV l)) (h2 : ovl ov y = some (strV m)) (hl : l.length + m.length ≤ 9223372036854775807) : HOp P ⟨d, .binOp .add T x y yT, ty, pos, af, gd⟩ ov g [] (strV (l ++ m)) [] := by
  rw [show strV (l ++ m) = .imm (.string (⟨l.toArray⟩ ++ ⟨m.toArray⟩)) from by rw [ba_app]]
  refine hop_bin .add _ _ _ h1 h2 (fun w => ?_)
  have h : ¬ ((((⟨l.toArray⟩ : ByteArray).size + (⟨m.toArray⟩ : ByteArray).size : Nat)) : Int) > IntKind.i64.max := by
    rw [ba_size, ba_size]
    show ¬ _ > (9223372036854775807 : Int)
    omega
  simp only [eqGuard, binOp, Op.stringOp, Sem.run_bind, Sem.run_pure, Result.andThen_ok]
  rw [if_neg h]
  rfl
/-- string(b) of bytes that are frozen. -/
theorem hop_conv_bs_sl {e : TypeId} {n : Nat} {f : Nat → Nat → HV} (l : List UInt8) (hT : P.underlying T = some (.slice e)) (he : P.underlying e = some (.int .u8)) (hd : P.underlying yT = some .string)
    (h1 : ovl ov x = some (.sl 1 n f)) (hl : l.length = n) (hf : ∀ i, i < n → f i 0 = u8V (l.getD i 0)) :
    HOp P ⟨d, .convert T yT x, ty, pos, af, gd⟩ ov g [] (strV l) [] :=
  hop_pure fun w E ρ hr => by
    have hX := hr x _ (by simp [Op.operands]) h1
    generalize hq : ρ x = u at hX
    cases hX with
    | sl A _ c _ _ vs hc hm hA h =>
      refine ⟨_, ?_, .imm _⟩
      simp only [execOp, hq]
      subst hl
      by_cases h0 : 0 < l.length
      · obtain ⟨b, o, rfl, hlt, hcell⟩ := hA h0
        have := run_convert_bytes_back (P := P) w T yT e ⟨b, o, none⟩ c l hT he hd (fun j hj => by
          have h2 := (hcell j 0 hj (by omega)).2.1
          have h3 := h j 0 hj (by omega)
          rw [hf j hj] at h3
          rw [add_off]
          simp only [Nat.mul_one, Nat.add_zero] at h2
          rw [h2, h3.imm_inv]
          have : l.getD j 0 = l[j] := by simp [List.getD, List.getElem?_eq_getElem hj]
          rw [this])
        rw [Sem.run_bind, this]; rfl
      · have hn : l = [] := List.eq_nil_of_length_eq_zero (by omega)
        subst hn
        have := run_convert_bytes_string (P := P) w T yT e A 0 c hT he hd
        rw [Sem.run_bind]
        simp only [List.length_nil]
        rw [this]
        cases A <;> simp [Conv.bytesToString, loadCells] <;> rfl
/-- string(b) of one's own bytes. -/
theorem hop_conv_bs_os {e oty : TypeId} {id gg lo n m fl : Nat} {f : Nat → Nat → HV} (l : List UInt8) (hT : P.underlying T = some (.slice e)) (he : P.underlying e = some (.int .u8)) (hd : P.underlying yT = some .string)
    (h1 : ovl ov x = some (.os id gg lo n)) (hn : lo + n ≤ m) (hl : l.length = n) (hf : ∀ i, i < n → f (lo + i) 0 = u8V (l.getD i 0)) :
    HOp P ⟨d, .convert T yT x, ty, pos, af, gd⟩ ov g [(id, ⟨gg, m, 1, oty, fl, f⟩)] (strV l) [] :=
  hop_read fun K w0 F0 E hh w ρ r ho hr => by
    have hX := hr x _ (by simp [Op.operands]) h1
    generalize hq : ρ x = u at hX
    cases hX with
    | os A _ c _ _ _ hgg hc hm hA h00 =>
      refine ⟨_, ?_, .imm _⟩
      simp only [execOp, hq]
      subst hl
      by_cases h0 : 0 < l.length
      · obtain ⟨l', bl, cs, hl', hlg, hlsz, hlA, hB, hcs, hnc, hm', vs, hvs⟩ := r.objAt ho (by show 0 < m; omega)
        obtain ⟨b, k, rfl, hA2⟩ := hA h0
        obtain ⟨hb, rfl⟩ := hA2 l' hl' hlg
        rw [hlA] at hb; injection hb with hb; subst hb
        have hs1 : l'.sz = 1 := hlsz
        have := run_convert_bytes_back (P := P) w T yT e ⟨bl, lo * l'.sz, none⟩ c l hT he hd (fun j hj => by
          have h2 := hvs (lo + j) 0 (by show lo + j < m; omega) (by show 0 < 1; omega)
          have h3 := h2.2.2
          rw [show (⟨gg, m, 1, oty, fl, f⟩ : HObj).f (lo + j) 0 = f (lo + j) 0 from rfl, hf j hj] at h3
          rw [add_off, hB.cell]
          have h4 := h2.1
          rw [hs1, Nat.mul_one]
          simp only [Nat.mul_one, Nat.add_zero] at h4
          rw [h4, h3.imm_inv]
          have : l.getD j 0 = l[j] := by simp [List.getD, List.getElem?_eq_getElem hj]
          rw [this])
        rw [Sem.run_bind, this]; rfl
      · have hn : l = [] := List.eq_nil_of_length_eq_zero (by omega)
        subst hn
        have := run_convert_bytes_string (P := P) w T yT e A 0 c hT he hd
        rw [Sem.run_bind]
        simp only [List.length_nil]
        rw [this]
        cases A <;> simp [Conv.bytesToString, loadCells] <;> rfl
/-- A conversion that leaves the value as it is. -/
theorem hop_conv_id {hx : HV} (hT : T = yT) (hc : ∀ (v : Value) (w : World), (convert T T v).run P w = .ok v w) (h1 : ovl ov x = some hx) : HOp P ⟨d, .convert T yT x, ty, pos, af, gd⟩ ov g [] hx [] :=
  hop_pure fun w E ρ hr => by
    subst hT
    exact ⟨ρ x, by simp only [execOp, Sem.run_bind]; rw [hc]; rfl, hr x _ (by simp [Op.operands]) h1⟩
/-! Bytes that a constant is made of: the row is marked, and no longer the call's own. -/
theorem freeze_heap {w : World} {b k : Nat} {cs : Array Value} {t : TypeId} (hB : Blk w b t cs) (j : Nat) : (w.freeze ⟨b, k, none⟩ 1).heap[j]? = if j = b then some (.cells cs t (k, k + 1)) else w.heap[j]? := by
  unfold World.freeze
  rw [if_neg (by decide)]
  show (w.heap.modify b _)[j]? = _
  rw [Array.getElem?_modify]
  by_cases h : j = b
  · subst h
    rw [if_pos rfl, if_pos rfl]
    unfold Blk at hB
    rw [hB]; rfl
  · rw [if_neg (Ne.symm h), if_neg h]
theorem freeze_size {w : World} {b k : Nat} : (w.freeze ⟨b, k, none⟩ 1).heap.size = w.heap.size := by
  unfold World.freeze
  rw [if_neg (by decide)]
  show (w.heap.modify b _).size = _
  rw [Array.size_modify]
theorem freeze_cell {w : World} {b k : Nat} {cs : Array Value} {t : TypeId} (hB : Blk w b t cs) (a : Addr) (ha : a.spot = none) : (w.freeze ⟨b, k, none⟩ 1).cell? a = w.cell? a := by
  obtain ⟨ab, ao, asp⟩ := a
  simp only at ha
  subst ha
  unfold World.cell?
  simp only [freeze_heap hB]
  by_cases h : ab = b
  · subst h
    rw [if_pos rfl]
    unfold Blk at hB
    rw [hB]
  · rw [if_neg h]
theorem run_conv_mark {T e : TypeId} {w : World} {b o n c : Nat} {cs : Array Value} {t : TypeId} (ht : P.underlying T = some (.slice e)) (he : P.underlying e = some (.int .u8)) (hB : Blk w b t cs) :
    (convert T T (.slice (some ⟨b, o, none⟩) n c)).run P w = .ok (.slice (some ⟨b, o, none⟩) n c) (w.freeze ⟨b, cs.size, none⟩ 1) := by
  have hsh : w.shape? b = some (t, cs.size) := by
    unfold World.shape?
    unfold Blk at hB
    rw [hB]
  simp [convert, run_underlying ht, run_underlying he, markStringish, hsh]
theorem hop_conv_mark {e oty : TypeId} {id gg n fl : Nat} {f : Nat → Nat → HV} (l : List UInt8) (hT : T = yT) (ht : P.underlying T = some (.slice e)) (he : P.underlying e = some (.int .u8))
    (h1 : ovl ov x = some (.os id gg 0 n)) (hn : 0 < n) (hl : l.length = n) (hf : ∀ i, i < n → f i 0 = u8V (l.getD i 0)) :
    HOp P ⟨d, .convert T yT x, ty, pos, af, gd⟩ ov g [(id, ⟨gg, n, 1, oty, fl, f⟩)] (bytesV l) [(id, ⟨g, 0, 1, oty, 0, f⟩)] := by
  subst hT
  subst hl
  intro K w0 F0 E hh a w Q N rr hr hG hBd hpre hN
  have ho := hpre (id, ⟨gg, l.length, 1, oty, fl, f⟩) (List.mem_cons_self ..)
  have hX := hr x _ (by simp [Op.operands]) h1
  generalize hq : a.eval x = u at hX
  cases hX with
  | os A _ c _ _ _ hgg hc hm hA h00 =>
    obtain ⟨l', bl, cs, hl', hlg, hlsz, hlA, hB, hcs, hnc, hm', vs, hvs⟩ := rr.objAt ho hn
    obtain ⟨b, k, rfl, hA2⟩ := hA hn
    obtain ⟨hb, rfl⟩ := hA2 l' hl' hlg
    rw [hlA] at hb; injection hb with hb; subst hb
    rw [Nat.zero_mul] at hq
    have hsz1 : l'.sz = 1 := hlsz
    have hob := rr.obj id _ ho
    obtain ⟨l2, hl2, hat⟩ := hob
    rw [hl'] at hl2; injection hl2 with hl2; subst hl2
    have hKb : bl < w0.heap.size → ¬ K bl := by
      exact hat.notK hlA
    have hbl : bl < w.heap.size := hB.lt
    obtain ⟨e1, r1⟩ := rr.renew id _ ⟨g, 0, 1, oty, 0, f⟩ l' ⟨g, none, 0, 1⟩ (w' := w.freeze ⟨bl, cs.size, none⟩ 1) ho hl' hG (by unfold World.freeze; rw [if_neg (by decide)]) (by unfold World.freeze; rw [if_neg (by decide)]) (by unfold World.freeze; rw [if_neg (by decide)])
      (by rw [freeze_size]; exact Nat.le_refl _) (fun k hk hne => by rw [freeze_heap hB, if_neg (fun e => hne (by rw [hlA, e]))]) (fun b k hb hF => freeze_cell hB _ rfl) (fun b hb => by cases hb)
      (fun e => ⟨rfl, .inr rfl, rfl, by show 0 < 1; omega, .inl ⟨rfl, rfl, rfl, Nat.le_refl _⟩⟩)
    have hcl : ∀ i, i < l.length → (w.freeze ⟨bl, cs.size, none⟩ 1).cell? ⟨bl, i, none⟩ = some (.int .u8 ((l.getD i 0).toNat : Int)) := by
      intro i hi
      rw [freeze_cell hB _ rfl, hB.cell]
      have h2 := hvs i 0 hi (by show 0 < 1; omega)
      have h3 := h2.2.2
      rw [show (⟨gg, l.length, 1, oty, fl, f⟩ : HObj).f i 0 = f i 0 from rfl, hf i hi] at h3
      have h4 := h2.1
      simp only [Nat.mul_one, Nat.add_zero] at h4
      rw [h4, h3.imm_inv]
    obtain ⟨e2, r2⟩ := r1.frzMore bl l.length (fun hlt => hKb hlt) (by rw [freeze_size]; exact hbl) (fun i hi => by rw [hcl i hi]; rfl) (fun id' o' l1 ho' hl1 hl1A => by
      by_cases hid : id' = id
      · subst hid; rw [Env.place_L] at hl1; injection hl1 with hl1; subst hl1; cases hl1A
      · rw [hset_ne _ _ hid] at ho'; rw [Env.place_Lne _ _ hid] at hl1
        exact hid (rr.inj id' id o' _ l1 l' bl ho' ho hl1 hl' hl1A hlA))
    refine wp_val (v := .slice (some ⟨bl, 0, none⟩) l.length c) (w' := w.freeze ⟨bl, cs.size, none⟩ 1) ?_ (hN _ _ _ (e1.trans e2) r2 (fun g' hg' => ?_) ?_)
    · simp only [execOp, hq]
      rw [Sem.run_bind, run_conv_mark ht he hB]; rfl
    · rcases hg' with hg' | hg'
      · exact .inl hg'
      · exact .inr ⟨by simp, hg'⟩
    · refine .sl _ _ c 1 _ (fun i _ => .int .u8 ((l.getD i 0).toNat : Int)) hc hm (fun _ => ⟨bl, 0, rfl, by rw [freeze_size]; exact hbl, fun i j hi hj => ?_⟩) (fun i j hi hj => .imm _)
      obtain rfl : j = 0 := by omega
      rw [Nat.mul_one, Nat.zero_add, Nat.add_zero]
      exact ⟨.inr ⟨i, hi, rfl⟩, hcl i hi, rfl⟩
end
/-! Bits. -/
def bor (k : IntKind) (a b : Int) : Int := k.wrap ((BitVec.ofInt k.bits a ||| BitVec.ofInt k.bits b).toNat : Int)
def band (k : IntKind) (a b : Int) : Int := k.wrap ((BitVec.ofInt k.bits a &&& BitVec.ofInt k.bits b).toNat : Int)
section
variable {P : Program} {ov : Nat → Option HV} {g : Nat} {d : Option Tmp} {ty T yT : TypeId} {pos : String} {af : Array Edge} {gd : Option (Nat × Bool)} {x y : Operand} {k k' : IntKind} {a b : Int}
theorem hop_bor (h1 : ovl ov x = some (.imm (.int k a))) (h2 : ovl ov y = some (.imm (.int k b))) : HOp P ⟨d, .binOp .or T x y yT, ty, pos, af, gd⟩ ov g [] (.imm (.int k (bor k a b))) [] := hop_bin .or _ _ _ h1 h2 (fun w => by simp [eqGuard, binOp, Op.intBits, bor])
theorem hop_band (h1 : ovl ov x = some (.imm (.int k a))) (h2 : ovl ov y = some (.imm (.int k b))) : HOp P ⟨d, .binOp .and T x y yT, ty, pos, af, gd⟩ ov g [] (.imm (.int k (band k a b))) [] := hop_bin .and _ _ _ h1 h2 (fun w => by simp [eqGuard, binOp, Op.intBits, band])
theorem hop_shl (h1 : ovl ov x = some (.imm (.int k a))) (h2 : ovl ov y = some (.imm (.int k' b))) (hb : 0 ≤ b) : HOp P ⟨d, .binOp .shl T x y yT, ty, pos, af, gd⟩ ov g [] (.imm (.int k (k.wrap (a * 2 ^ (min b.toNat k.bits))))) [] :=
  hop_bin .shl _ _ _ h1 h2 (fun w => by simp [eqGuard, binOp, Op.shift, show ¬ b < 0 from by omega])
theorem hop_shr (h1 : ovl ov x = some (.imm (.int k a))) (h2 : ovl ov y = some (.imm (.int k' b))) (hb : 0 ≤ b) : HOp P ⟨d, .binOp .shr T x y yT, ty, pos, af, gd⟩ ov g [] (.imm (.int k (a.fdiv (2 ^ (min b.toNat k.bits))))) [] :=
  hop_bin .shr _ _ _ h1 h2 (fun w => by simp [eqGuard, binOp, Op.shift, show ¬ b < 0 from by omega])
end
theorem HOp.val {P : Program} {o : Oper} {ov : Nat → Option HV} {g : Nat} {pre post : List (Nat × HObj)} {v v' : HV} (h : HOp P o ov g pre v post) (e : v = v') : HOp P o ov g pre v' post := e ▸ h
/-! Sums that stay within their kind. -/
def WOk (k : IntKind) (lo hi : Int) : Prop := ∀ c, lo ≤ c → c ≤ hi → k.wrap c = c
theorem wok_u8 : WOk .u8 0 255 := fun c h1 h2 => by rw [IntKind.wrap_u8]; omega
theorem wok_u16 : WOk .u16 0 65535 := fun c h1 h2 => by rw [IntKind.wrap_u16]; omega
theorem wok_u32 : WOk .u32 0 4294967295 := fun c h1 h2 => by rw [IntKind.wrap_u32]; omega
theorem wok_u64 : WOk .u64 0 18446744073709551615 := fun c h1 h2 => by rw [IntKind.wrap_u64]; omega
theorem wok_i32 : WOk .i32 (-2147483648) 2147483647 := fun c h1 h2 => by rw [IntKind.wrap_i32]; omega
theorem wok_i64 : WOk .i64 (-9223372036854775808) 9223372036854775807 := fun c h1 h2 => by rw [IntKind.wrap_i64]; omega
section
variable {P : Program} {ov : Nat → Option HV} {g : Nat} {d : Option Tmp} {ty T yT : TypeId} {pos : String} {af : Array Edge} {gd : Option (Nat × Bool)} {x y : Operand} {k k' : IntKind} {a b lo hi c : Int}
theorem hop_addk (w : WOk k lo hi) (h1 : ovl ov x = some (.imm (.int k a))) (h2 : ovl ov y = some (.imm (.int k b))) (hc : c = a + b) (hl : lo ≤ c) (hh : c ≤ hi) : HOp P ⟨d, .binOp .add T x y yT, ty, pos, af, gd⟩ ov g [] (.imm (.int k c)) [] := by
  have := hop_add (P := P) (T := T) (yT := yT) (g := g) (d := d) (ty := ty) (pos := pos) (af := af) (gd := gd) h1 h2
  rwa [← hc, w c hl hh] at this
theorem hop_subk (w : WOk k lo hi) (h1 : ovl ov x = some (.imm (.int k a))) (h2 : ovl ov y = some (.imm (.int k b))) (hc : c = a - b) (hl : lo ≤ c) (hh : c ≤ hi) : HOp P ⟨d, .binOp .sub T x y yT, ty, pos, af, gd⟩ ov g [] (.imm (.int k c)) [] := by
  have := hop_sub (P := P) (T := T) (yT := yT) (g := g) (d := d) (ty := ty) (pos := pos) (af := af) (gd := gd) h1 h2
  rwa [← hc, w c hl hh] at this
theorem hop_mulk (w : WOk k lo hi) (h1 : ovl ov x = some (.imm (.int k a))) (h2 : ovl ov y = some (.imm (.int k b))) (hc : c = a * b) (hl : lo ≤ c) (hh : c ≤ hi) : HOp P ⟨d, .binOp .mul T x y yT, ty, pos, af, gd⟩ ov g [] (.imm (.int k c)) [] := by
  have := hop_mul (P := P) (T := T) (yT := yT) (g := g) (d := d) (ty := ty) (pos := pos) (af := af) (gd := gd) h1 h2
  rwa [← hc, w c hl hh] at this
theorem hop_quok (w : WOk k lo hi) (h1 : ovl ov x = some (.imm (.int k a))) (h2 : ovl ov y = some (.imm (.int k b))) (hc : c = a / b) (ha : 0 ≤ a) (hb : 0 < b) (hl : lo ≤ c) (hh : c ≤ hi) : HOp P ⟨d, .binOp .quo T x y yT, ty, pos, af, gd⟩ ov g [] (.imm (.int k c)) [] := by
  have := hop_quo (P := P) (T := T) (yT := yT) (g := g) (d := d) (ty := ty) (pos := pos) (af := af) (gd := gd) h1 h2 (by omega)
  rwa [Int.tdiv_eq_ediv_of_nonneg ha, ← hc, w c hl hh] at this
theorem hop_remk (h1 : ovl ov x = some (.imm (.int k a))) (h2 : ovl ov y = some (.imm (.int k b))) (hc : c = a % b) (ha : 0 ≤ a) (hb : 0 < b) : HOp P ⟨d, .binOp .rem T x y yT, ty, pos, af, gd⟩ ov g [] (.imm (.int k c)) [] := by
  have := hop_rem (P := P) (T := T) (yT := yT) (g := g) (d := d) (ty := ty) (pos := pos) (af := af) (gd := gd) h1 h2 (by omega)
  rwa [Int.tmod_eq_emod_of_nonneg ha, ← hc] at this
theorem hop_convk (w : WOk k' lo hi) (hT : P.underlying yT = some (.int k')) (hS : (P.underlying T).isSome = true) (h1 : ovl ov x = some (.imm (.int k a))) (hl : lo ≤ a) (hh : a ≤ hi) : HOp P ⟨d, .convert T yT x, ty, pos, af, gd⟩ ov g [] (.imm (.int k' a)) [] := by
  have := hop_conv (P := P) (g := g) (d := d) (ty := ty) (pos := pos) (af := af) (gd := gd) hT hS h1
  rwa [w a hl hh] at this
end
theorem sb_str {l m : List UInt8} (h : l = m) : Sb (strV l) (strV m) := h ▸ .refl _
theorem cut_all (l : List UInt8) (a b : Nat) (h : l.length ≤ a + b) : (l.drop a).take b = l.drop a := List.take_of_length_le (by rw [List.length_drop]; omega)
theorem bsf_u8 : ∀ (l : List UInt8) (i : Nat), i < l.length → bsf (l.map u8V) i 0 = u8V (l.getD i 0)
  | [], i, h => absurd h (Nat.not_lt_zero _)
  | c :: l, 0, _ => rfl
  | c :: l, i + 1, h => bsf_u8 l i (by simpa using h)
end Go.Proofs.YtijpdbjcmnpobaaDoor
