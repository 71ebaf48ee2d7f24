/-
  queue.Sorted, inside a fence.
-/
import Derived.Test.YtkeeipfglmpgjaaSort04
import Derived.RangeFuncNested
namespace Go.Proofs.Ytkeeipfglmpgjaa
set_option linter.unusedSimpArgs false
set_option linter.unusedVariables false
open Go.RowKit Go.Shelf
attribute [local go_sem] Oper.semAt_some
theorem intElem : Elem Try.prog 64 3 1 8 :=
  ⟨Try.underlying64, info_some (z := .int .i64 0) (by kernel_rfl) rfl, by omega, by omega⟩
theorem int_one (x : Int) : ∀ u ∈ intC x, u.oneCell' = true := by intro u hu; simp [intC] at hu; subst hu; rfl

/-- The things in their order, with their keys. -/
def qOf (f : Int → Int) (l : List Int) : List One := l.zipIdx.map fun p => ⟨f p.1, (p.2 : Int), p.1⟩
theorem qOf_snoc (f : Int → Int) (l : List Int) (x : Int) : qOf f (l ++ [x]) = qOf f l ++ [⟨f x, (l.length : Int), x⟩] := by
  simp [qOf, List.zipIdx_append]
theorem qOf_length (f : Int → Int) (l : List Int) : (qOf f l).length = l.length := by simp [qOf]
theorem qOf_came (f : Int → Int) (l : List Int) : Came (qOf f l) l.length := by
  have : ∀ m : List Int, Came (qOf f m.reverse) m.length := by
    intro m
    induction m with
    | nil => exact Came.nil _
    | cons x m ih =>
      rw [List.reverse_cons, qOf_snoc]
      have := ih.snoc (f x) x
      rw [List.length_reverse]
      simpa using this
  have := this l.reverse
  simpa using this
theorem run_neq_func (f : Fn) (t : Array Value) (b : Array Value) (w : World) : (binOp .neq 67 (.func f t b) .nilFunc).run Try.prog w = .ok (.bool true) w := by kernel_rfl
theorem run_neq_nilf (w : World) : (binOp .neq 67 .nilFunc .nilFunc).run Try.prog w = .ok (.bool false) w := by kernel_rfl
attribute [local go_sem] run_neq_func run_neq_nilf

theorem QH.setCell_blk {W : World} {base Q : Nat} {xs : List One} {came : Int} (h : QH W base Q xs came) {g : Nat} {t : TypeId} {cs : Array Value} (hg : Blk W g t cs) (h1 : t ≠ 55) (h2 : t ≠ 93) (i : Nat) (u : Value) : QH (W.setCell ⟨g, i, none⟩ u) base Q xs came :=
  h.keep (fun k cs' t' z hk ht => Below.heap_setCell _ _ _ _ (fun e => by
    have e : k = g := e
    subst e
    rw [show W.heap[k]? = _ from hg] at hk
    injection hk with hk
    injection hk with _ e4
    subst e4
    rcases ht with ht | ht
    · exact h1 ht
    · exact h2 ht)) (by have := h.size; simpa [World.setCell] using this)
theorem QH.putObj {W : World} {base Q : Nat} {xs : List One} {came : Int} (h : QH W base Q xs came) {l : Nat} {o : Obj} (o' : Obj) (hl : W.heap[l]? = some o) (ho : o.isCells = false) : QH (W.putObj l o') base Q xs came :=
  h.keep (fun k cs' t' z hk _ => World.putObj_heap_other (fun e => by
    subst e
    rw [hk] at hl
    injection hl with hl
    subst hl
    cases ho)) (by rw [World.putObj_size]; exact h.size)
theorem Blk.putObj {W : World} {g : Nat} {t : TypeId} {cs : Array Value} (h : Blk W g t cs) {l : Nat} {o : Obj} (o' : Obj) (hl : W.heap[l]? = some o) (ho : o.isCells = false) : Blk (W.putObj l o') g t cs :=
  (World.putObj_heap_other (fun e => by
    subst e
    rw [show W.heap[g]? = _ from h] at hl
    injection hl with hl
    subst hl
    cases ho)).trans h
theorem Own.putObj' {α : Type} {W : World} {base size : Nat} {e : TypeId} {enc : α → List Value} {v : Value} {l : List α} (h : Own W base e size enc v l) {k : Nat} {o : Obj} (o' : Obj) (hl : W.heap[k]? = some o) (ho : o.isCells = false) : Own (W.putObj k o') base e size enc v l := ⟨h.1, ownsRow_putObj h.2 o' hl ho⟩
theorem bel_putObj {B : Nat} {a W : World} (h : Below B a W) {l : Nat} (hl : B ≤ l) (o' : Obj) : Below B a (W.putObj l o') := h.trans ⟨rfl, rfl, rfl, by rw [World.putObj_size]; exact Nat.le_refl _, fun k hk => World.putObj_heap_other (by omega)⟩
/-- append(s, x...) inside a fence. -/
theorem wpListIn_append_sl {α : Type} {F : Fence} {n : Nat} {P : Program} {w : World} {ops : Array Oper} {rest : List Oper} {o : Oper} {a : Act} {Q : Exit → Act → World → Prop} (hgd : o.guard = none) (s x : Operand) (t : TypeId)
    (ho : o.op = .call { callee := .builtin .append, args := #[s, x], argTypes := #[t, t] })
    {e : TypeId} {size bytes : Nat} (E : Elem P t e size bytes) (base : Nat) (enc : α → List Value) (h1 : ∀ x, ∀ u ∈ enc x, u.oneCell' = true)
    (v : Value) (l : List α) (nl : Nat) (hnl : l.length = nl) (hs : a.eval s = v) (hown : Own w base e size enc v l)
    (B : Nat) (A : Addr) (k c : Nat) (m : List α) (hx : a.eval x = .slice (some A) k c) (hk : m.length = k) (hk0 : 0 < k) (hr : Sl w B size enc (some A) m)
    (hlen : nl + k ≤ 2000000000) (hbase : base ≤ w.heap.size)
    (h : ∀ A' c' w', Own w' base e size enc (.slice A' (nl + k) c') (l ++ m) → w.grownBy w' v.ownBlock → wpListIn F n P ops Q rest (a.put o.dst (.slice A' (nl + k) c')) w') : wpListIn F n P ops Q (o :: rest) a w := by
  subst hk
  subst hnl
  obtain ⟨i, z, hi, hz, hsz, hby, hzs⟩ := E.info
  obtain ⟨ad, e1, _, hc⟩ := hr.2.2 hk0
  injection e1 with e1
  subst e1
  refine wpListIn_append_own w hgd s x t ho base e i z size bytes E.ht hi hz hsz hby hzs E.pos v l.length (l.flatMap enc) hs hown.2 A m.length c (m.flatMap enc) hx hr.2.1 hc (fun u hu => ?_) (by unfold maxLen; omega) ?_ hbase ?_
  · obtain ⟨y, _, hy⟩ := List.mem_flatMap.1 hu
    exact h1 y u hy
  · have := Nat.mul_le_mul hlen E.small
    omega
  · intro v' w' h2 h3 _
    have h5 : Own w' base e size enc v' (l ++ m) := ⟨hown.1, by rw [List.length_append, List.flatMap_append]; exact h2⟩
    obtain ⟨A', c', hv, _⟩ := h5.form
    rw [List.length_append] at hv
    subst hv
    exact h A' c' w' h5 h3
/-- What the loop over Drain has made so far. -/
def SI (W0 : World) (base ob : Nat) (pre : List (Int × Int)) (W : World) : Prop := ∃ A c p, pre.length = p ∧ Boxed W ob 64 (.slice A p c) ∧ Own W base 3 1 intC (.slice A p c) (pre.map (·.2)) ∧ Below base W0 W

set_option maxRecDepth 100000 in
set_option maxHeartbeats 4000000 in
theorem SortedK_in (n' : Nat) (hn' : 4 ≤ n') (f : Int → Int) (kb : Nat) (A : Option Addr) (n c B : Nat) (l : List Int) (W : World) (hn : l.length = n) (h : Sl W B 1 intC A l) (hB : B ≤ W.heap.size) (hl : n ≤ 100000)
    (hK : ∀ x ∈ l, ∀ W', Below W.heap.size W W' → Calls Try.prog 25 #[.int .i64 x, .pointer (some ⟨kb, 0, none⟩)] W' fun e W'' => e = .returned (.int .i64 (f x)) ∧ W' = W'') :
    CallsIn Fence.wide n' Try.prog 24 #[.func (.func 25) #[] #[.pointer (some ⟨kb, 0, none⟩)], .slice A n c] W (GivesSl 3 1 intC W ((drain (qOf f l)).map (·.thing))) := by
  have h1 : 1 ≤ n' := by omega
  have HN := Lib.hid hn
  have HS := Lib.hid h
  have HK := Lib.hid hK
  clear hn h hK
  refine callsIn_of_wp_marks Try.func24 rfl trivial ?_ rfl
  simp only [Try.ntmps24, List.size_toArray, List.length_cons, List.length_nil, Nat.reduceAdd, Nat.reduceSub, Array.replicate_succ, Array.replicate_zero, List.push_toArray, List.append_toArray, List.nil_append, List.cons_append]
  have H0 := Lib.hid (QH.new (W.alloc (.cells #[.slice none 0 0, .int .i64 0] 55)) W.heap.size W.heap.size (Nat.le_refl _) (by simp) (Blk.new W _ _))
  have B0 := Lib.hid (((Below.refl _ W).alloc (Nat.le_refl _) (.cells #[.slice none 0 0, .int .i64 0] 55)))
  gi_wp2
  gi_loopw [14] (fun i wr => ∃ k : Nat, k ≤ n ∧ i = .int .i64 k ∧ Hid (QH wr W.heap.size W.heap.size (qOf f (l.take k)) k) ∧ Hid (Below W.heap.size W wr)) (fun i _ => n - (intOf i).toNat)
  case atStart => exact ⟨0, Nat.zero_le _, rfl, H0, B0⟩
  case round =>
    obtain ⟨k, hk, rfl, HQ, HB⟩ := hrel
    by_cases hlt : k < n
    · have hkl : k < l.length := by rw [HN.out]; exact hlt
      have hd : decide (k < n) = true := by simpa using hlt
      obtain ⟨b, o, rfl, hbB⟩ := HS.out.addr (by omega) (by omega)
      have r0 : wr.cell? ⟨b, o + k, none⟩ = some (.int .i64 (l[k]'hkl)) := (HS.out.below (HB.out.mono hB)).cell1 hkl
      have HC := HK.out (l[k]'hkl) (List.getElem_mem _) wr HB.out
      have HP0 := fun came hc0 hc1 hq => Put_any wr W.heap.size W.heap.size (qOf f (l.take k)) came (f (l[k]'hkl)) (l[k]'hkl) hq (by rw [qOf_length, List.length_take]; omega) hc0 hc1
      have HE : Hid (qOf f (l.take k) ++ [⟨f (l[k]'hkl), (k : Int), l[k]'hkl⟩] = qOf f (l.take (k + 1))) := by
        show _ = _
        rw [List.take_succ_eq_append_getElem hkl, qOf_snoc]
        simp; omega
      have HP := HP0 k (by omega) (by omega) HQ.out
      clear HP0
      obtain ⟨x, hx⟩ : ∃ x, l[k]'hkl = x := ⟨_, rfl⟩
      rw [hx] at r0 HC HP HE
      rw [HE.out] at HP
      obtain ⟨y, hy⟩ : ∃ y, f x = y := ⟨_, rfl⟩
      rw [hy] at HC HP HE
      clear hx hy hkl
      gi_wp2_with (refine ⟨trivial, ?_⟩; first
        | (gi_at_call 25; refine (callsIn_wide.2 HC).mono ?_; rintro e w1 ⟨rfl, rfl⟩)
        | (gi_at_call 16; refine (callsIn_wide.2 HP).mono ?_; rintro e w2 ⟨rfl, hq2, hb2⟩; have HQ2 := Lib.hid hq2; have HB2 := Lib.hid (HB.out.trans hb2.1); clear hq2 hb2))
      go_roundw
      case rel => exact ⟨k + 1, by omega, by go_num, HQ2, HB2⟩
      case measure => simp [intOf]; omega
    · obtain rfl : k = n := by omega
      have hq := HQ.out
      rw [List.take_of_length_le (by rw [HN.out]; exact Nat.le_refl _)] at hq
      have HQ1 := Lib.hid hq
      clear hq
      obtain ⟨i0, z0, hi, hz, hsz, hby, hzs⟩ := intElem.info
      have Hinfo := Lib.hid (And.intro hi (And.intro hz (And.intro hsz hby)))
      clear hi hz hsz hby hzs
      gi_wp2_with (first
        | (gi_at_make; refine wpListIn_make_own _ rfl (.const (.int .i64 0)) (.tmp 28) 64 rfl W.heap.size 3 i0 z0 1 Try.underlying64 Hinfo.out.1 Hinfo.out.2.1 Hinfo.out.2.2.1 .i64 .i64 (k : Int) k rfl rfl rfl (by rw [Hinfo.out.2.2.2]; omega) (by unfold maxLen; omega) HB.out.size ?_; intro w2 ho2 hg2; have HO2 := Lib.hid ho2; have HQ2 := Lib.hid (HQ1.out.keep (fun i cs t z hi _ => hg2.block i (lt_of_heap hi) (by simp)) (Nat.le_trans HQ1.out.size hg2.size)); have HB2 := Lib.hid (HB.out.grown hg2 HB.out.size (by intro i hi; cases hi)); have hwr := (World.ownsRow.lt ho2 _ rfl).2; clear ho2 hg2)
        | (refine ⟨trivial, ?_⟩; gi_at_call 26; refine (callsIn_wide.2 (Drain_any _ _)).mono ?_; rintro e w1 ⟨rfl, rfl⟩)
        | fail)
      obtain ⟨W3, hW3⟩ : ∃ W3, ((w2.alloc (.cells #[.slice (some ⟨wr.heap.size, 0, none⟩) 0 k] 64)).alloc (.cells #[.pointer (some ⟨W.heap.size, 0, none⟩)] 47)) = W3 := ⟨_, rfl⟩
      have hz2 := HB2.out.size
      have q3 : DS W3 W.heap.size W.heap.size (w2.heap.size + 1) (qOf f l) k := by
        rw [← hW3]
        refine ⟨(HQ2.out.alloc _).alloc _, ?_⟩
        have := Blk.new (w2.alloc (.cells #[.slice (some ⟨wr.heap.size, 0, none⟩) 0 k] 64)) 47 #[.pointer (some ⟨W.heap.size, 0, none⟩)]
        rwa [World.size_alloc] at this
      have bo : Boxed W3 w2.heap.size 64 (.slice (some ⟨wr.heap.size, 0, none⟩) 0 k) := by rw [← hW3]; exact (Boxed.new w2 _ _).alloc _
      have o3 : Own W3 W.heap.size 3 1 intC (.slice (some ⟨wr.heap.size, 0, none⟩) 0 k) [] := by
        rw [← hW3]; exact (Own.alloc (Own.alloc ⟨int_len, HO2.out⟩ _) _)
      have B3 : Below W.heap.size W W3 := by rw [← hW3]; exact (HB2.out.alloc hz2 _).alloc (le_alloc hz2 _) _
      have z3 : W3.heap.size = w2.heap.size + 2 := by rw [← hW3]; simp
      have hcm : Came (qOf f l) k := by have := qOf_came f l; rwa [HN.out] at this
      have hlq : (qOf f l).length ≤ 100000 := by rw [qOf_length, HN.out]; exact hl
      have hdl : ((drain (qOf f l)).map kt).length = k := by rw [List.length_map, drain_length, qOf_length, HN.out]
      rw [hW3]
      have Q3 := Lib.hid q3
      have BO := Lib.hid bo
      have O3 := Lib.hid o3
      have BB3 := Lib.hid B3
      have HCM := Lib.hid hcm
      have HDL := Lib.hid hdl
      clear hW3 q3 bo o3 B3 HO2 HQ2 HB2 HQ1 HB HQ H0 B0 hcm hdl
      refine range_mut rfl h1 (gf := 45) (lb := #[.pointer (some ⟨w2.heap.size + 1, 0, none⟩)]) rfl trivial (enters_of Try.func45 (by kernel_rfl) rfl)
        (fun x : Int × Int => #[.int .i64 x.1, .int .i64 x.2]) (fun _ => rfl) (BF W.heap.size) (fun X Y i o hr hi ho => (hr.2 i o hi (QFree.other ho)).trans hi)
        (KD W.heap.size W.heap.size (w2.heap.size + 1)) (fun X Y Z h1 h2 xs cm hd => h2 xs cm (h1 xs cm hd)) (fun X i o o' hi ho xs cm hd => ⟨hd.1.putObj o' hi ho, hd.2.putObj o' hi ho⟩)
        (SI W3 W.heap.size w2.heap.size)
        (fun s X Y hs hr => by obtain ⟨A1, c1, p, hp, hb, ho, hl⟩ := hs; exact ⟨A1, c1, p, hp, hr.blk hb (by decide) (by decide), hr.own ho (by decide) (by decide), hl.trans hr.1⟩)
        (fun s X i o o' hs hi1 hi ho => by obtain ⟨A1, c1, p, hp, hb, ho1, hl⟩ := hs; exact ⟨A1, c1, p, hp, Blk.putObj hb o' hi ho, ho1.putObj' o' hi ho, bel_putObj hl (by omega) o'⟩)
        (fun o o' => ⟨_, _, 0, rfl, (BO.out.alloc _).alloc _, (O3.out.alloc _).alloc _, ((Below.refl _ _).alloc (by omega) _).alloc (by simp; omega) _⟩)
        (fun s => s = (drain (qOf f l)).map kt) (fun s => s <+: (drain (qOf f l)).map kt)
        (fun l' J o o' hJ hY h0 => Drain1_in (n' - 1) (by omega) l' W.heap.size W.heap.size (w2.heap.size + 1) J hJ _ (qOf f l) k hlq (fun pre x W1 hj hp => hY pre x W1 hj hp) ⟨(Q3.out.1.alloc _).alloc _, (Q3.out.2.alloc _).alloc _⟩ HCM.out h0)
        (fun x => { tmps := #[.func (.func 25) #[] #[.pointer (some ⟨kb, 0, none⟩)], .slice A k c, undef, undef, .slice none 0 0, .pointer (some ⟨W.heap.size, 0, none⟩), undef, u7, u8, .pointer (some ⟨w2.heap.size, 0, none⟩), undef, .int .i64 x.2, .slice A k c, .int .i64 k, .int .i64 k, .bool false, u16, u17, u18, u19, u20, u21, u22, u23, u24, u25, u26, .slice A k c, .int .i64 k, .slice (some ⟨wr.heap.size, 0, none⟩) 0 k, .func (.func 45) #[] #[.pointer (some ⟨w2.heap.size + 1, 0, none⟩)], .int .i64 x.1, .int .i64 x.2, undef, undef, undef, undef, undef], defers := [] }) ?assign ?body ?done
      case assign =>
        intro l' x X K hK
        gi_wp2
        exact hK
      case body =>
        rintro l' pre x X ⟨A1, c1, p, hp, hb, ho, hlw⟩ hok hxz
        have hc := hb.cell
        have hpl : p + 1 ≤ k := by
          have := hok.length_le
          rw [HDL.out, List.length_append, hp] at this
          simpa using this
        have hbx := hlw.size
        have HO := Lib.hid ho
        have HBX := Lib.hid hb
        have HLW := Lib.hid hlw
        have HPP := Lib.hid hp
        clear ho hb hlw hp hok
        have HMP : Hid ((pre.map (·.2)).length = p) := by show _ = _; rw [List.length_map, HPP.out]
        gi_wp2_with (gi_at_builtin; refine wpListIn_append_sl rfl (.tmp 33) (.tmp 35) 64 rfl intElem W.heap.size intC int_one (.slice A1 p c1) (pre.map (·.2)) p HMP.out rfl (HO.out.alloc _) (X.heap.size + 1) ⟨X.heap.size, 0, none⟩ 1 1 [x.2] rfl rfl (by decide) (Sl.new X intC 1 int_len 3 x.2) (by omega) (by simp; omega) ?_; intro A2 c2 X2 ho2 hg2; have hbx2 := (HBX.out.alloc (.cells #[.int .i64 x.2] 3)).kept hg2 (HBX.out.not_row (by decide) HO.out.2); have hc2 := hbx2.cell; have hf2 := hbx2.frozen; have HBX2 := Lib.hid hbx2; have HO2 := Lib.hid ho2; have HG2 := Lib.hid hg2; clear hbx2 ho2 hg2)
        refine ⟨?_, ?_, A2, c2, p + 1, ?_, HBX2.out.set _, ?_, ?_⟩
        · exact (HBX.out.appended (by decide) HO.out.2 (by omega) (by omega) HO2.out.2 HG2.out).2.2.2.1.from _
        · intro xs cm hd
          refine ⟨(((hd.1.alloc _).grown (HO.out.alloc _) (by decide) (by decide) HG2.out).setCell_blk (t := 64) HBX2.out (by decide) (by decide) _ _), ?_⟩
          have hd2 := (hd.2.alloc (.cells #[.int .i64 x.2] 3)).grown HG2.out (fun e => own_blk_ne (HO.out.alloc (.cells #[.int .i64 x.2] 3)).2 (hd.2.alloc _) (by decide) e.symm)
          have hne : w2.heap.size + 1 ≠ w2.heap.size := by omega
          exact hd2.far (p := ⟨w2.heap.size, 0, none⟩) hne _
        · rw [List.length_append, HPP.out]; rfl
        · rw [List.map_append]
          exact HO2.out.kept fun i hi => Below.heap_setCell _ _ _ _ (fun e => HO2.out.ne_blk HBX2.out (by decide) (by rw [hi, e]))
        · exact ((HO.out.alloc _).below_grown (HLW.out.alloc (by omega) _) HG2.out (Nat.le_refl _) (by simp; omega)).setCell (by omega) _
      case done =>
        rintro D s X hD rfl ⟨A1, c1, p, hp, hb, ho, hlw⟩ hKD
        have hc := hb.cell
        have HO := Lib.hid ho
        have HLW := Lib.hid hlw
        have hp2 : p = k := by rw [← hp, HDL.out]
        have HPK := Lib.hid hp2
        clear ho hb hlw hp hp2
        gi_wp2
        refine ⟨by simp, .inl ⟨_, _, rfl, run_takeDeferred hKD, ?_⟩⟩
        refine ⟨_, results_tmp rfl _ _ _, ?_⟩
        have hm : ((drain (qOf f l)).map kt).map (·.2) = (drain (qOf f l)).map (·.thing) := by rw [List.map_map]; rfl
        have ho2 := HO.out.putObj' (.deferred none) hKD rfl
        rw [hm] at ho2
        exact GivesSl.of ho2.cap.2 rfl ho2 (bel_putObj (BB3.out.trans HLW.out) (by omega) _)
def zf (_ : Int) : Int := 0
set_option maxRecDepth 100000 in
set_option maxHeartbeats 4000000 in
theorem SortedN_in (n' : Nat) (hn' : 4 ≤ n') (A : Option Addr) (n c B : Nat) (l : List Int) (W : World) (hn : l.length = n) (h : Sl W B 1 intC A l) (hB : B ≤ W.heap.size) (hl : n ≤ 100000) :
    CallsIn Fence.wide n' Try.prog 24 #[.nilFunc, .slice A n c] W (GivesSl 3 1 intC W ((drain (qOf zf l)).map (·.thing))) := by
  have h1 : 1 ≤ n' := by omega
  have HN := Lib.hid hn
  have HS := Lib.hid h
  clear hn h
  refine callsIn_of_wp_marks Try.func24 rfl trivial ?_ rfl
  simp only [Try.ntmps24, List.size_toArray, List.length_cons, List.length_nil, Nat.reduceAdd, Nat.reduceSub, Array.replicate_succ, Array.replicate_zero, List.push_toArray, List.append_toArray, List.nil_append, List.cons_append]
  have H0 := Lib.hid (QH.new (W.alloc (.cells #[.slice none 0 0, .int .i64 0] 55)) W.heap.size W.heap.size (Nat.le_refl _) (by simp) (Blk.new W _ _))
  have B0 := Lib.hid (((Below.refl _ W).alloc (Nat.le_refl _) (.cells #[.slice none 0 0, .int .i64 0] 55)))
  gi_wp2
  gi_loopw [14] (fun i wr => ∃ k : Nat, k ≤ n ∧ i = .int .i64 k ∧ Hid (QH wr W.heap.size W.heap.size (qOf zf (l.take k)) k) ∧ Hid (Below W.heap.size W wr)) (fun i _ => n - (intOf i).toNat)
  case atStart => exact ⟨0, Nat.zero_le _, rfl, H0, B0⟩
  case round =>
    obtain ⟨k, hk, rfl, HQ, HB⟩ := hrel
    by_cases hlt : k < n
    · have hkl : k < l.length := by rw [HN.out]; exact hlt
      have hd : decide (k < n) = true := by simpa using hlt
      obtain ⟨b, o, rfl, hbB⟩ := HS.out.addr (by omega) (by omega)
      have r0 : wr.cell? ⟨b, o + k, none⟩ = some (.int .i64 (l[k]'hkl)) := (HS.out.below (HB.out.mono hB)).cell1 hkl
      have HP0 := fun came hc0 hc1 hq => Put_any wr W.heap.size W.heap.size (qOf zf (l.take k)) came (zf (l[k]'hkl)) (l[k]'hkl) hq (by rw [qOf_length, List.length_take]; omega) hc0 hc1
      have HE : Hid (qOf zf (l.take k) ++ [⟨zf (l[k]'hkl), (k : Int), l[k]'hkl⟩] = qOf zf (l.take (k + 1))) := by
        show _ = _
        rw [List.take_succ_eq_append_getElem hkl, qOf_snoc]
        simp; omega
      have HP := HP0 k (by omega) (by omega) HQ.out
      clear HP0
      obtain ⟨x, hx⟩ : ∃ x, l[k]'hkl = x := ⟨_, rfl⟩
      rw [hx] at r0 HP HE
      rw [HE.out] at HP
      rw [show zf x = 0 from rfl] at HP HE
      clear hx hkl
      gi_wp2_with (refine ⟨trivial, ?_⟩; first
        | (gi_at_call 16; refine (callsIn_wide.2 HP).mono ?_; rintro e w2 ⟨rfl, hq2, hb2⟩; have HQ2 := Lib.hid hq2; have HB2 := Lib.hid (HB.out.trans hb2.1); clear hq2 hb2))
      go_roundw
      case rel => exact ⟨k + 1, by omega, by go_num, HQ2, HB2⟩
      case measure => simp [intOf]; omega
    · obtain rfl : k = n := by omega
      have hq := HQ.out
      rw [List.take_of_length_le (by rw [HN.out]; exact Nat.le_refl _)] at hq
      have HQ1 := Lib.hid hq
      clear hq
      obtain ⟨i0, z0, hi, hz, hsz, hby, hzs⟩ := intElem.info
      have Hinfo := Lib.hid (And.intro hi (And.intro hz (And.intro hsz hby)))
      clear hi hz hsz hby hzs
      gi_wp2_with (first
        | (gi_at_make; refine wpListIn_make_own _ rfl (.const (.int .i64 0)) (.tmp 28) 64 rfl W.heap.size 3 i0 z0 1 Try.underlying64 Hinfo.out.1 Hinfo.out.2.1 Hinfo.out.2.2.1 .i64 .i64 (k : Int) k rfl rfl rfl (by rw [Hinfo.out.2.2.2]; omega) (by unfold maxLen; omega) HB.out.size ?_; intro w2 ho2 hg2; have HO2 := Lib.hid ho2; have HQ2 := Lib.hid (HQ1.out.keep (fun i cs t z hi _ => hg2.block i (lt_of_heap hi) (by simp)) (Nat.le_trans HQ1.out.size hg2.size)); have HB2 := Lib.hid (HB.out.grown hg2 HB.out.size (by intro i hi; cases hi)); have hwr := (World.ownsRow.lt ho2 _ rfl).2; clear ho2 hg2)
        | (refine ⟨trivial, ?_⟩; gi_at_call 26; refine (callsIn_wide.2 (Drain_any _ _)).mono ?_; rintro e w1 ⟨rfl, rfl⟩)
        | fail)
      obtain ⟨W3, hW3⟩ : ∃ W3, ((w2.alloc (.cells #[.slice (some ⟨wr.heap.size, 0, none⟩) 0 k] 64)).alloc (.cells #[.pointer (some ⟨W.heap.size, 0, none⟩)] 47)) = W3 := ⟨_, rfl⟩
      have hz2 := HB2.out.size
      have q3 : DS W3 W.heap.size W.heap.size (w2.heap.size + 1) (qOf zf l) k := by
        rw [← hW3]
        refine ⟨(HQ2.out.alloc _).alloc _, ?_⟩
        have := Blk.new (w2.alloc (.cells #[.slice (some ⟨wr.heap.size, 0, none⟩) 0 k] 64)) 47 #[.pointer (some ⟨W.heap.size, 0, none⟩)]
        rwa [World.size_alloc] at this
      have bo : Boxed W3 w2.heap.size 64 (.slice (some ⟨wr.heap.size, 0, none⟩) 0 k) := by rw [← hW3]; exact (Boxed.new w2 _ _).alloc _
      have o3 : Own W3 W.heap.size 3 1 intC (.slice (some ⟨wr.heap.size, 0, none⟩) 0 k) [] := by
        rw [← hW3]; exact (Own.alloc (Own.alloc ⟨int_len, HO2.out⟩ _) _)
      have B3 : Below W.heap.size W W3 := by rw [← hW3]; exact (HB2.out.alloc hz2 _).alloc (le_alloc hz2 _) _
      have z3 : W3.heap.size = w2.heap.size + 2 := by rw [← hW3]; simp
      have hcm : Came (qOf zf l) k := by have := qOf_came zf l; rwa [HN.out] at this
      have hlq : (qOf zf l).length ≤ 100000 := by rw [qOf_length, HN.out]; exact hl
      have hdl : ((drain (qOf zf l)).map kt).length = k := by rw [List.length_map, drain_length, qOf_length, HN.out]
      rw [hW3]
      have Q3 := Lib.hid q3
      have BO := Lib.hid bo
      have O3 := Lib.hid o3
      have BB3 := Lib.hid B3
      have HCM := Lib.hid hcm
      have HDL := Lib.hid hdl
      clear hW3 q3 bo o3 B3 HO2 HQ2 HB2 HQ1 HB HQ H0 B0 hcm hdl
      refine range_mut rfl h1 (gf := 45) (lb := #[.pointer (some ⟨w2.heap.size + 1, 0, none⟩)]) rfl trivial (enters_of Try.func45 (by kernel_rfl) rfl)
        (fun x : Int × Int => #[.int .i64 x.1, .int .i64 x.2]) (fun _ => rfl) (BF W.heap.size) (fun X Y i o hr hi ho => (hr.2 i o hi (QFree.other ho)).trans hi)
        (KD W.heap.size W.heap.size (w2.heap.size + 1)) (fun X Y Z h1 h2 xs cm hd => h2 xs cm (h1 xs cm hd)) (fun X i o o' hi ho xs cm hd => ⟨hd.1.putObj o' hi ho, hd.2.putObj o' hi ho⟩)
        (SI W3 W.heap.size w2.heap.size)
        (fun s X Y hs hr => by obtain ⟨A1, c1, p, hp, hb, ho, hl⟩ := hs; exact ⟨A1, c1, p, hp, hr.blk hb (by decide) (by decide), hr.own ho (by decide) (by decide), hl.trans hr.1⟩)
        (fun s X i o o' hs hi1 hi ho => by obtain ⟨A1, c1, p, hp, hb, ho1, hl⟩ := hs; exact ⟨A1, c1, p, hp, Blk.putObj hb o' hi ho, ho1.putObj' o' hi ho, bel_putObj hl (by omega) o'⟩)
        (fun o o' => ⟨_, _, 0, rfl, (BO.out.alloc _).alloc _, (O3.out.alloc _).alloc _, ((Below.refl _ _).alloc (by omega) _).alloc (by simp; omega) _⟩)
        (fun s => s = (drain (qOf zf l)).map kt) (fun s => s <+: (drain (qOf zf l)).map kt)
        (fun l' J o o' hJ hY h0 => Drain1_in (n' - 1) (by omega) l' W.heap.size W.heap.size (w2.heap.size + 1) J hJ _ (qOf zf l) k hlq (fun pre x W1 hj hp => hY pre x W1 hj hp) ⟨(Q3.out.1.alloc _).alloc _, (Q3.out.2.alloc _).alloc _⟩ HCM.out h0)
        (fun x => { tmps := #[.nilFunc, .slice A k c, undef, undef, .slice none 0 0, .pointer (some ⟨W.heap.size, 0, none⟩), undef, u7, u8, .pointer (some ⟨w2.heap.size, 0, none⟩), undef, .int .i64 x.2, .slice A k c, .int .i64 k, .int .i64 k, .bool false, u16, u17, u18, u19, u20, u21, u22, u23, u24, u25, u26, .slice A k c, .int .i64 k, .slice (some ⟨wr.heap.size, 0, none⟩) 0 k, .func (.func 45) #[] #[.pointer (some ⟨w2.heap.size + 1, 0, none⟩)], .int .i64 x.1, .int .i64 x.2, undef, undef, undef, undef, undef], defers := [] }) ?assign ?body ?done
      case assign =>
        intro l' x X K hK
        gi_wp2
        exact hK
      case body =>
        rintro l' pre x X ⟨A1, c1, p, hp, hb, ho, hlw⟩ hok hxz
        have hc := hb.cell
        have hpl : p + 1 ≤ k := by
          have := hok.length_le
          rw [HDL.out, List.length_append, hp] at this
          simpa using this
        have hbx := hlw.size
        have HO := Lib.hid ho
        have HBX := Lib.hid hb
        have HLW := Lib.hid hlw
        have HPP := Lib.hid hp
        clear ho hb hlw hp hok
        have HMP : Hid ((pre.map (·.2)).length = p) := by show _ = _; rw [List.length_map, HPP.out]
        gi_wp2_with (gi_at_builtin; refine wpListIn_append_sl rfl (.tmp 33) (.tmp 35) 64 rfl intElem W.heap.size intC int_one (.slice A1 p c1) (pre.map (·.2)) p HMP.out rfl (HO.out.alloc _) (X.heap.size + 1) ⟨X.heap.size, 0, none⟩ 1 1 [x.2] rfl rfl (by decide) (Sl.new X intC 1 int_len 3 x.2) (by omega) (by simp; omega) ?_; intro A2 c2 X2 ho2 hg2; have hbx2 := (HBX.out.alloc (.cells #[.int .i64 x.2] 3)).kept hg2 (HBX.out.not_row (by decide) HO.out.2); have hc2 := hbx2.cell; have hf2 := hbx2.frozen; have HBX2 := Lib.hid hbx2; have HO2 := Lib.hid ho2; have HG2 := Lib.hid hg2; clear hbx2 ho2 hg2)
        refine ⟨?_, ?_, A2, c2, p + 1, ?_, HBX2.out.set _, ?_, ?_⟩
        · exact (HBX.out.appended (by decide) HO.out.2 (by omega) (by omega) HO2.out.2 HG2.out).2.2.2.1.from _
        · intro xs cm hd
          refine ⟨(((hd.1.alloc _).grown (HO.out.alloc _) (by decide) (by decide) HG2.out).setCell_blk (t := 64) HBX2.out (by decide) (by decide) _ _), ?_⟩
          have hd2 := (hd.2.alloc (.cells #[.int .i64 x.2] 3)).grown HG2.out (fun e => own_blk_ne (HO.out.alloc (.cells #[.int .i64 x.2] 3)).2 (hd.2.alloc _) (by decide) e.symm)
          have hne : w2.heap.size + 1 ≠ w2.heap.size := by omega
          exact hd2.far (p := ⟨w2.heap.size, 0, none⟩) hne _
        · rw [List.length_append, HPP.out]; rfl
        · rw [List.map_append]
          exact HO2.out.kept fun i hi => Below.heap_setCell _ _ _ _ (fun e => HO2.out.ne_blk HBX2.out (by decide) (by rw [hi, e]))
        · exact ((HO.out.alloc _).below_grown (HLW.out.alloc (by omega) _) HG2.out (Nat.le_refl _) (by simp; omega)).setCell (by omega) _
      case done =>
        rintro D s X hD rfl ⟨A1, c1, p, hp, hb, ho, hlw⟩ hKD
        have hc := hb.cell
        have HO := Lib.hid ho
        have HLW := Lib.hid hlw
        have hp2 : p = k := by rw [← hp, HDL.out]
        have HPK := Lib.hid hp2
        clear ho hb hlw hp hp2
        gi_wp2
        refine ⟨by simp, .inl ⟨_, _, rfl, run_takeDeferred hKD, ?_⟩⟩
        refine ⟨_, results_tmp rfl _ _ _, ?_⟩
        have hm : ((drain (qOf zf l)).map kt).map (·.2) = (drain (qOf zf l)).map (·.thing) := by rw [List.map_map]; rfl
        have ho2 := HO.out.putObj' (.deferred none) hKD rfl
        rw [hm] at ho2
        exact GivesSl.of ho2.cap.2 rfl ho2 (bel_putObj (BB3.out.trans HLW.out) (by omega) _)
theorem SortedK_any (f : Int → Int) (kb : Nat) (A : Option Addr) (n c B : Nat) (l : List Int) (W : World) (hn : l.length = n) (h : Sl W B 1 intC A l) (hB : B ≤ W.heap.size) (hl : n ≤ 100000)
    (hK : ∀ x ∈ l, ∀ W', Below W.heap.size W W' → Calls Try.prog 25 #[.int .i64 x, .pointer (some ⟨kb, 0, none⟩)] W' fun e W'' => e = .returned (.int .i64 (f x)) ∧ W' = W'') :
    Calls Try.prog 24 #[.func (.func 25) #[] #[.pointer (some ⟨kb, 0, none⟩)], .slice A n c] W (GivesSl 3 1 intC W ((drain (qOf f l)).map (·.thing))) :=
  callsIn_wide.1 (SortedK_in 4 (Nat.le_refl _) f kb A n c B l W hn h hB hl hK)
theorem SortedN_any (A : Option Addr) (n c B : Nat) (l : List Int) (W : World) (hn : l.length = n) (h : Sl W B 1 intC A l) (hB : B ≤ W.heap.size) (hl : n ≤ 100000) :
    Calls Try.prog 24 #[.nilFunc, .slice A n c] W (GivesSl 3 1 intC W ((drain (qOf zf l)).map (·.thing))) :=
  callsIn_wide.1 (SortedN_in 4 (Nat.le_refl _) A n c B l W hn h hB hl)
end Go.Proofs.Ytkeeipfglmpgjaa
