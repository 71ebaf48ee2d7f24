/-
  strings.Builder in the reader's words: two objects of the call's own, the builder and its row of bytes.
-/
import Derived.Test.YtijpdbjcmnpobaaDoorHf
import Derived.Test.YtijpdbjcmnpobaaDoorHstr
import Derived.Test.YtijpdbjcmnpobaaDoorHu
import Derived.Test.YtijpdbjcmnpobaaDoorBld
import Derived.Test.YtijpdbjcmnpobaaDoorStr
import Derived.Lib.AppendStr
namespace Go.Proofs.YtijpdbjcmnpobaaDoor
set_option linter.unusedSimpArgs false
set_option linter.unusedVariables false
set_option maxRecDepth 100000
open Go.RowKit

section
variable {P : Program}
theorem run_append_objs (w : World) (t u ty e : TypeId) (i : TypeInfo) (ht : P.underlying t = some (.slice e)) (hu : P.underlying u = some .string) (hi : P.info? e = some i) (hz : i.zero = some (.int .u8 0))
    (hsize : i.size = 1) (hby : i.bytes = 1) (v : Value) (n : Nat) (xs : List Value) (hown : w.ownsRow 0 e 1 v n xs) (s : ByteArray) (h63 : n + s.size ≤ 2000000000) :
    ∃ v' w', (Builtin.append_ #[t, u] ty #[v, .string s]).run P w = .ok v' w' ∧ w'.ownsRow 0 e 1 v' (n + s.size) (xs ++ Lib.strCells s) ∧ w.grownBy w' v.ownBlock ∧
      (v'.ownBlock = v.ownBlock ∨ (v'.ownBlock = some w.heap.size ∧ w.grownBy w' none)) := by
  obtain ⟨v', w', hrun, h2, h3, h4⟩ := Lib.run_append_own_string (P := P) (w := w) 0 t u ty e i ht hu hi hz hsize hby v n xs hown s (by unfold maxLen; omega) (by omega) (Nat.zero_le _)
  refine ⟨v', w', hrun, h2, h3, ?_⟩
  have hxl : xs.length = n := by simpa using hown.1
  rcases hown.2 with ⟨rfl, rfl⟩ | ⟨g, cap, cur, rfl, hbg, hg, hnc, hcm, hcs, htake⟩
  · by_cases hm : s.size = 0
    · have := h4.2 ⟨rfl, hm⟩
      subst this
      exact .inl rfl
    · have hr := run_append_nil_string (P := P) w t u ty e i (.int .u8 0) ht hu hi hz s (by omega) (by omega) (by rw [hby]; omega)
      rw [hr] at hrun
      injection hrun with hv hw
      subst hv
      exact .inr ⟨rfl, h3⟩
  · by_cases hroom : n + s.size ≤ cap
    · have hcs' : cur.size = cap := by simpa using hcs
      have hr := Lib.run_append_room_string (P := P) (w := w) t u ty e i ht hu hi hsize g n cap cur hg s hroom (by omega)
      rw [hr] at hrun
      injection hrun with hv hw
      subst hv
      exact .inl rfl
    · have holds : ∀ j u, xs[j]? = some u → w.cell? ((⟨g, 0, none⟩ : Addr).add j) = some u := hown.cells (g := g) rfl
      have hr := Lib.run_append_grow_string (P := P) (w := w) t u ty e i (.int .u8 0) ht hu hi hz ⟨g, 0, none⟩ n cap xs (by rw [hsize]; simpa using hxl) holds s (by omega) (by omega) (by rw [hby]; exact growslice_fits (by omega) (by omega))
      rw [hr] at hrun
      injection hrun with hv hw
      subst hv; subst hw
      exact .inr ⟨rfl, rfl, rfl, rfl, by simp, fun k hk _ => heap_alloc_old w.drew _ hk⟩
end
section
variable {P : Program} {ov : Nat → Option HV} {g : Nat} {d : Option Tmp} {ty T U : TypeId} {pos : String} {af : Array Edge} {gd : Option (Nat × Bool)} {x y : Operand}
/-- append(b, s...) of a string's bytes. -/
theorem hol_append_str {id gg m n fl : Nat} {e : TypeId} {f : Nat → Nat → HV} (l : List UInt8) (hT : elInfo P T = some (e, 1, 1, true)) (hz8 : ((P.info? e).bind (·.zero)) = some (.int .u8 0)) (hU : P.underlying U = some .string) (h1 : ovl ov x = some (.os id gg 0 m)) (h2 : ovl ov y = some (strV l)) (hm : m ≤ n) (hfl : fl ≤ m)
    (hk : m + l.length ≤ 2000000000) {m' : Nat} (hm' : m + l.length = m') :
    HOp P ⟨d, .call ⟨.builtin .append, #[x, y], #[T, U]⟩, ty, pos, af, gd⟩ ov g [(id, ⟨gg, n, 1, e, fl, f⟩)] (.os id g 0 m') [(id, ⟨g, m', 1, e, fl, cat m f (fun i _ => u8V (l.getD i 0))⟩)] := by
  subst hm'
  intro K w0 F0 E hh a w Q N r ht hG hBd hpre hN
  have ho := hpre _ (List.mem_cons_self ..)
  simp only at ho
  have hX := ht x _ (by simp [Op.operands, Call.operands]) h1
  have hY := Rep.imm_inv (ht y _ (by simp [Op.operands, Call.operands]) h2)
  obtain ⟨hu, i, z, hi, hz, his, hib, hzs, _⟩ := elInfo_spec hT
  have hz' : i.zero = some (.int .u8 0) := by rw [hi] at hz8; simpa using hz8
  obtain ⟨lc, xs, hl, hown, hcap, hxs⟩ := r.owns ho m hm hfl
  obtain ⟨l', hl', at_⟩ := r.obj id _ ho
  rw [hl] at hl'; injection hl' with hl'; subst hl'
  generalize hρ : a.eval x = u at hX
  cases hX with
  | os A1 _ c1 _ _ _ hgg hc hmm hA hz0 =>
    obtain ⟨rfl, rfl⟩ := hz0 lc hl at_.g rfl
    obtain ⟨v', w', hrun, h2, h3, h4⟩ := run_append_objs (P := P) w T U ty e i hu hU hi hz' his hib _ m xs hown ⟨l.toArray⟩ (by rw [ba_size]; exact hk)
    rw [ba_size] at h2
    obtain ⟨E', e', r', hg', hrep⟩ := r.append id _ lc ho hl m l.length g hm hfl hG (fun i _ => u8V (l.getD i 0)) xs (Lib.strCells ⟨l.toArray⟩) hown hxs (by rw [Lib.strCells_length, ba_size]; simp) (fun p j hp hj => by
      obtain rfl : j = 0 := by simpa using hj
      refine ⟨.int .u8 ((l.getD p 0).toNat : Int), ?_, .imm _⟩
      simp [Lib.strCells, List.getD_eq_getElem?_getD, hp]) (Lib.strCells_oneCell _) hcap v' h2 h3 h4
    refine wp_val (v := v') (w' := w') ?_ (hN v' w' E' e' r' (fun g' h => (hg' g' h).imp (fun h => h) fun h => ⟨by simp, h⟩) hrep)
    simp only [execOp, resolve, invoke, builtin, Sem.run_bind, Sem.run_pure, Result.andThen_ok, List.map_toArray, List.map_cons, List.map_nil, hρ, hY, hrun]
end
section
variable {K : Nat → Prop} {w0 w : World} {F0 : Addr → Prop} {E : Env} {h : Nat → Option HObj}
/-- What an object holds, told anew. -/
theorem R.retell (r : R K w0 F0 E h w) (id : Nat) {g n sz : Nat} {ty : TypeId} {fl : Nat} {f f' : Nat → Nat → HV} (ho : h id = some ⟨g, n, sz, ty, fl, f⟩)
    (hc : ∀ l b cs, E.L id = some l → l.A = some b → Blk w b ty cs → ∀ i j u, i < n → j < sz → cs[i * sz + j]? = some u → Rep w E u (f i j) → Rep w E u (f' i j)) (hfn : fl ≤ n := by first | exact Nat.zero_le _ | exact Nat.le_refl _ | omega) : R K w0 F0 E (hset h id ⟨g, n, sz, ty, fl, f'⟩) w :=
  { r with
    obj := fun k o hk => by
      by_cases e : k = id
      · subst e
        rw [hset_same] at hk; injection hk with hk; subst hk
        obtain ⟨l, hl, a⟩ := r.obj k _ ho
        refine ⟨l, hl, a.g, a.G, a.sz, a.pos, ?_⟩
        rcases a.at_ with h0 | ⟨b, cs, g1, g2, g3, g4, g5, g6, ⟨vs, g8⟩, g9⟩ | ⟨_, _, _, _, h3, _⟩
        rotate_right
        · have h7 := h3.n; have h8 := h3.fl; simp only at h7 h8; omega
        · exact .inl h0
        · exact .inr (.inl ⟨b, cs, g1, g2, g3, g4, g5, g6, ⟨vs, fun i j hi hj => ⟨(g8 i j hi hj).1, (g8 i j hi hj).2.1, hc l b cs hl g1 g2 i j _ hi hj (g8 i j hi hj).1 (g8 i j hi hj).2.2⟩⟩, g9⟩)
      · rw [hset_ne _ _ e] at hk
        exact r.obj k o hk
    inj := fun k k' o o' l l' b hk hk' hl hl' hb hb' => by
      have old : ∀ k o, hset h id ⟨g, n, sz, ty, fl, f'⟩ k = some o → ∃ o, h k = some o := by
        intro k o hk
        by_cases e : k = id
        · subst e; exact ⟨_, ho⟩
        · rw [hset_ne _ _ e] at hk; exact ⟨o, hk⟩
      obtain ⟨p, hp⟩ := old k o hk
      obtain ⟨q, hq⟩ := old k' o' hk'
      exact r.inj k k' p q l l' b hp hq hl hl' hb hb' }
end
@[reducible] def bldF (g g2 n : Nat) : Nat → Nat → HV := fun _ j => match j with | 0 => .nps 8001 g | _ => .os 8002 g2 0 n
@[reducible] def bufF (l : List UInt8) : Nat → Nat → HV := fun i _ => u8V (l.getD i 0)
@[reducible] def bldO (g g2 n : Nat) : HObj := ⟨g, 1, 2, 76, 0, bldF g g2 n⟩
@[reducible] def bufO (g2 n : Nat) (l : List UInt8) : HObj := ⟨g2, n, 1, 5, 0, bufF l⟩
theorem bld_zero : zcs Tryd.prog 76 = some [.pointer none, .slice none 0 0] := by kernel_rfl
/-- A new builder. -/
theorem hm_bld {C : Ctx} {ops : Array Oper} {Q : Exit → Act → World → Prop} {n clk : Nat} {tm : List (Nat × TV)} {hp : List (Nat × HObj)} {rest : List Oper} {ty : TypeId} {pos : String} {af : Array Edge} (d : Nat) (hlt : Nat.blt d n = true) (hk : nokey tm d = true) {c' : Nat} (hc' : clk + 2 = c')
    (h : HSeq C Tryd.prog ops rest ⟨n, (d, .v (.pt 8001 clk 0 0)) :: tm, (8001, bldO clk (clk + 1) 0) :: (8002, bufO (clk + 1) 0 []) :: hp, c'⟩ Q) :
    HSeq C Tryd.prog ops (⟨some d, .alloc 76, ty, pos, af, none⟩ :: rest) ⟨n, tm, hp, clk⟩ Q := by
  subst hc'
  intro a w ⟨E, e0, r, hG, hsz, hdf, ht⟩
  have hlt : d < n := by simpa [Nat.blt_eq] using hlt
  unfold wpSeq
  rw [if_pos (by simp [Region.wanted])]
  obtain ⟨z, hz1, hz2⟩ := Option.map_eq_some_iff.1 bld_zero
  obtain ⟨i, hi, hz⟩ := Option.bind_eq_some_iff.1 hz1
  have hcs : z.cells = #[.pointer none, .slice none 0 0] := by apply Array.ext'; exact hz2
  have hG : ∀ g, E.G g → g < clk := hG
  have hG0 : ¬ E.G clk := fun hg => absurd (hG _ hg) (Nat.lt_irrefl _)
  obtain ⟨e1, r1⟩ := r.new 8001 clk 1 2 76 z.cells (fun _ j => match j with | 0 => .imm (.pointer none) | _ => .imm (.slice none 0 0)) 1 (fun _ j => match j with | 0 => .pointer none | _ => .slice none 0 0) hG0 (by omega) (by rw [hcs]; rfl) (Nat.le_refl _) (by unfold maxLen; omega) (fun i j hi hj => by
    obtain rfl : i = 0 := by omega
    rw [hcs]
    match j, hj with
    | 0, _ => exact ⟨rfl, rfl, .imm _⟩
    | 1, _ => exact ⟨rfl, rfl, .imm _⟩)
  have hG1 : ¬ (E.new 8001 clk w.heap.size 1 2).G (clk + 1) := fun hg => by
    rcases hg with hg | hg
    · exact absurd (hG _ hg) (by omega)
    · omega
  obtain ⟨e2, r2⟩ := r1.newNil 8002 (clk + 1) 1 5 (bufF []) hG1 (by omega)
  have hL : ((E.new 8001 clk w.heap.size 1 2).place 8002 ⟨clk + 1, none, 0, 1⟩).L 8001 = some ⟨clk, some w.heap.size, 1, 2⟩ := by
    rw [Env.place_Lne _ _ (by decide)]; exact Env.new_L ..
  have r3 := r2.retell 8001 (g := clk) (n := 1) (sz := 2) (ty := 76) (fl := 0) (f' := bldF clk (clk + 1) 0) (by rw [hset_ne _ _ (by decide), hset_same]) (fun l b cs hl hb hB i j u hi hj hu hr => by
    match j, hj with
    | 0, _ =>
      rw [hr.imm_inv]
      exact .npn 8001 clk (.inl (.inr rfl)) (fun l hl _ => by rw [hL] at hl; injection hl with hl; subst hl; rfl)
    | 1, _ =>
      rw [hr.imm_inv]
      refine .os none 0 0 8002 (clk + 1) 0 (.inr rfl) (Nat.le_refl _) (Nat.zero_le _) (fun h => absurd h (Nat.lt_irrefl _)) (fun l hl _ _ => ?_)
      rw [Env.place_L] at hl; injection hl with hl; subst hl
      exact ⟨rfl, rfl⟩)
  refine wp_val (v := .pointer (some ⟨w.heap.size, 0, none⟩)) (w' := w.alloc (.cells z.cells 76)) ?_ ?_
  · simp [execOp, Instr.alloc, zeroValue, typeInfo, hi, hz, newVar, newRow]
  · refine h _ _ ⟨_, e0.trans (e1.trans e2), ?_, fun g hg => ?_, by simp [Act.put, hsz], hdf.ext (e1.trans e2), fun t y hy => ?_⟩
    · refine r3.less (fun id o ho => ?_)
      simp only [hget_cons] at ho
      by_cases h1 : id = 8001
      · subst h1; rw [hset_same] at ho ⊢; exact ho
      · rw [hset_ne _ _ h1] at ho ⊢
        by_cases h2 : id = 8002
        · subst h2; rw [hset_same] at ho ⊢; exact ho
        · rw [hset_ne _ _ h2] at ho ⊢
          rw [hset_ne _ _ h1]; exact ho
    · rcases hg with (hg | hg) | hg
      · exact Nat.lt_of_lt_of_le (hG g hg) (by show clk ≤ clk + 2; omega)
      · show g < clk + 2; omega
      · have hg : g = clk + 1 := hg
        show g < clk + 2; omega
    · simp only [tget_cons] at hy
      split at hy
      · rename_i htd
        subst htd
        injection hy with hy
        subst hy
        rw [getD_put_same (by rw [hsz]; exact hlt)]
        refine .pt _ _ 8001 clk 0 0 (.inl (.inr rfl)) (fun l hl _ => ?_)
        rw [hL] at hl; injection hl with hl; subst hl
        exact ⟨rfl, by simp⟩
      · rename_i htd
        rw [getD_put_ne htd]
        have := (ht t y hy).ext (e1.trans e2)
        cases y with
        | v z => exact this
        | un j b z =>
          have hne := nokey_spec hk t j b z hy
          simp only [TVRep, getD_put_ne hne] at this ⊢; exact this
theorem tup0_rep (w : World) (E : Env) : Rep w E (.tuple #[]) (.tup 0 fun _ => default) := .tup #[] 0 (fun _ => default) (fun _ => undef) rfl (fun i hi => absurd hi (Nat.not_lt_zero _)) (fun i hi => absurd hi (Nat.not_lt_zero _))
/-- copyCheck: behind it the builder knows its own place. -/
theorem copy_h (c g g2 n : Nat) : HFun Tryd.prog 75 c [.pt 8001 g 0 0] [(8001, bldO g g2 n)]
    (RetP (fun (_ : Unit) c' => c' = c) (fun _ => .tup 0 fun _ => default) (fun _ => [(8001, bldO g g2 n)])) := by
  refine ⟨⟨_, _, Tryd.func75, rfl, by kernel_rfl⟩, fun X vs ok hX hr hG => ?_⟩
  match vs, hr with
  | [v], hr =>
  have hv := hr.1
  have ho : X.h 8001 = some (bldO g g2 n) := ok.pre 8001 _ (by rw [hX]; rfl)
  obtain ⟨l, bl, cs, hl, hlg, hlsz, hlA, hB, hcs, hnc, hm, vs, hvs⟩ := ok.r.objAt ho (by show 0 < 1; omega)
  cases hv with
  | pt b k _ _ _ _ hgg hh =>
    obtain ⟨hb, rfl⟩ := hh l hl hlg
    rw [hlA] at hb; injection hb with hb; subst hb
    rw [show 0 * l.sz + 0 = 0 from by simp]
    have c0 := hvs 0 0 (by show 0 < 1; omega) (by show 0 < 2; omega)
    have k0 : cs[0]? = some (vs 0 0) := c0.1
    have hrep : Rep X.w X.E (vs 0 0) (.nps 8001 g) := c0.2.2
    have hself : ∀ w', Rep w' X.E (.pointer (some ⟨bl, 0, none⟩)) (.pt 8001 g 0 0) := fun w' => .pt _ _ 8001 g 0 0 hgg (fun l' hl' hlg' => by
      obtain ⟨h1, h2⟩ := hh l' hl' hlg'
      exact ⟨h1, by simp⟩)
    have hcell : X.w.cell? ⟨bl, 0, none⟩ = some (vs 0 0) := by rw [hB.cell]; exact k0
    have hpost : ∀ w', Ext X.w X.E w' X.E → R X.K X.w0 X.F0 X.E (hupd X.h [(8001, bldO g g2 n)]) w' → FunPost X (RetP (fun (_ : Unit) c' => c' = c) (fun _ => .tup 0 fun _ => default) (fun _ => [(8001, bldO g g2 n)])) (.returned (.tuple #[])) w' :=
      fun w' e r => ⟨_, _, c, X.E, ⟨(), rfl, rfl, rfl⟩, e, r, hG, fun _ h => .inl h, tup0_rep _ _⟩
    generalize hq : vs 0 0 = u at hrep k0 hcell
    cases hrep with
    | npn _ _ _ hcap =>
      have h1 := hcap l hl hlg
      have hsize : cs.size = 2 := by rw [hcs, h1]; rfl
      have hsh : X.w.shape? bl = some (76, 2) := by
        unfold World.shape?
        have := hB
        unfold Blk at this
        rw [this]
        simp [hsize]
      have hfz : X.w.frozen? ⟨bl, 0, none⟩ = false := hB.frozen _
      refine (Any.Builder_copyCheck_fresh Tryd.bld240 Tryd.bldX240 bl X.w hcell hsh hfz).mono ?_
      rintro e w' ⟨rfl, rfl⟩
      obtain ⟨e', r'⟩ := ok.r.store 8001 _ l bl ho hl hlA 0 0 [.pointer (some ⟨bl, 0, none⟩)] (fun _ => .nps 8001 g) (by show 0 < 1; omega) (Nat.le_refl _) (by show 0 + 1 ≤ 2; omega) (fun j u hu => by
        match j, hu with
        | 0, hu => simp at hu; subst hu; exact ⟨rfl, .npp _ _ _ hgg hcap (hself _)⟩)
      refine hpost _ e' (r'.weak (fun id o' ho' => ?_))
      have ho' : hset X.h 8001 (bldO g g2 n) id = some o' := ho'
      by_cases hid : id = 8001
      · subst hid
        rw [hset_same] at ho'; injection ho' with ho'; subst ho'
        refine ⟨_, hset_same .., rfl, rfl, rfl, rfl, Nat.le_refl _, fun i j hi hj => ?_, fun h => absurd h (by show ¬ (1 < 0); omega)⟩
        simp only at hi hj
        obtain rfl : i = 0 := by omega
        match j, hj with
        | 0, _ => exact .refl _
        | 1, _ => exact .refl _
      · rw [hset_ne _ _ hid] at ho'
        exact ⟨o', by rw [hset_ne _ _ hid]; exact ho', .refl _⟩
    | npp _ _ _ _ _ hp =>
      cases hp with
      | pt b' k' _ _ _ _ _ hh' =>
        obtain ⟨hb', hk'⟩ := hh' l hl hlg
        rw [hlA] at hb'; injection hb' with hb'; subst hb'
        have hk0 : k' = 0 := by rw [hk']; simp
        subst hk0
        refine (Any.Builder_copyCheck_used Tryd.bld240 Tryd.bldX240 bl X.w hcell).mono ?_
        rintro e w' ⟨rfl, rfl⟩
        refine hpost _ (Ext.refl _ _) (ok.r.less (fun id o ho' => ?_))
        have ho' : hset X.h 8001 (bldO g g2 n) id = some o := ho'
        by_cases hid : id = 8001
        · subst hid; rw [hset_same] at ho'; rw [ho]; exact ho'
        · rwa [hset_ne _ _ hid] at ho'
/-- b.String(), where nothing else of the call's own is wanted behind it. -/
theorem hf_string {w0 : World} {F : Addr → Prop} {ops : Array Oper} {Q : Exit → Act → World → Prop} {n clk : Nat} {tm : List (Nat × TV)} {hp : List (Nat × HObj)} {rest : List Oper} {ty : TypeId} {pos : String} {af : Array Edge} {at_ : Array TypeId} {x : Operand} (d g g2 m : Nat) (l : List UInt8)
    (hx : ovl (pview (tget tm)) x = some (.pt 8001 g 0 0)) (h1 : hget hp 8001 = some (bldO g g2 m)) (h2 : hget hp 8002 = some (bufO g2 m l)) (hm : m = l.length) (hlt : Nat.blt d n = true)
    (h : HSeq (Ctx.top w0 F) Tryd.prog ops rest ⟨n, [(d, .v (strV l))], [], clk⟩ Q) :
    HSeq (Ctx.top w0 F) Tryd.prog ops (⟨some d, .call ⟨.value (.func 48), #[x], at_⟩, ty, pos, af, none⟩ :: rest) ⟨n, tm, hp, clk⟩ Q := by
  intro a w ⟨E, e0, r, hG, hsz, hdf, ht⟩
  have hlt : d < n := by simpa [Nat.blt_eq] using hlt
  unfold wpSeq
  rw [if_pos (by simp [Region.wanted])]
  have hv : Rep w E (a.eval x) (.pt 8001 g 0 0) := by
    cases x with
    | tmp t =>
      simp only [ovl, pview] at hx
      cases hq : tget tm t with
      | none => rw [hq] at hx; cases hx
      | some u => rw [hq] at hx; cases u with
        | v y => injection hx with hx; subst hx; exact ht t _ hq
        | un j b y => cases hx
    | const v => exact rep_cst w E _ v _ hx
    | global k => cases hx
    | func f => cases hx
  obtain ⟨lc, bl, cs, hl, hlg, hlsz, hlA, hB, hcs, hnc, hmx, vs, hvs⟩ := r.objAt h1 (by show 0 < 1; omega)
  have notK : ∀ id o l b, hget hp id = some o → E.L id = some l → l.A = some b → w0.heap.size ≤ b := by
    intro id o l b ho hl hb
    obtain ⟨l', hl', at_⟩ := r.obj id o ho
    rw [hl] at hl'; injection hl' with hl'; subst hl'
    rcases Nat.lt_or_ge b w0.heap.size with hlt | hge
    · exact absurd trivial (at_.notK hb hlt)
    · exact hge
  generalize hρ : a.eval x = u at hv
  cases hv with
  | pt b k _ _ _ _ hgg hh =>
    obtain ⟨hb, rfl⟩ := hh lc hl hlg
    rw [hlA] at hb; injection hb with hb; subst hb
    rw [show 0 * lc.sz + 0 = 0 from by simp] at hρ
    have hBl := notK 8001 _ lc bl h1 hl hlA
    have c0 := hvs 0 0 (by show 0 < 1; omega) (by show 0 < 2; omega)
    have c1 := hvs 0 1 (by show 0 < 1; omega) (by show 1 < 2; omega)
    have k0 : cs[0]? = some (vs 0 0) := c0.1
    have k1 : cs[1]? = some (vs 0 1) := c1.1
    have r0 : Rep w E (vs 0 0) (.nps 8001 g) := c0.2.2
    have r1 : Rep w E (vs 0 1) (.os 8002 g2 0 m) := c1.2.2
    obtain ⟨l2, xs, hl2, hown, hcap2, hxs⟩ := r.owns h2 m (Nat.le_refl _) (Nat.zero_le _)
    obtain ⟨l2', hl2', at2⟩ := r.obj 8002 _ h2
    rw [hl2] at hl2'; injection hl2' with hl2'; subst hl2'
    have hbuf : vs 0 1 = .slice (l2.A.map fun b => ⟨b, 0, none⟩) m l2.cap := by
      generalize vs 0 1 = u at r1
      cases r1 with
      | os A1 _ c1 _ _ _ hgg hc hmm hA hz0 =>
        obtain ⟨rfl, rfl⟩ := hz0 l2 hl2 at2.g rfl
        rfl
    have hxsl : xs = Lib.byteCells l := by
      have hxl : xs.length = m := by simpa using hown.1
      apply List.ext_getElem?
      intro p
      by_cases hp : p < m
      · obtain ⟨u, h1, _, h3⟩ := hxs p 0 hp (by show 0 < 1; omega)
        have h3 : Rep w E u (u8V (l.getD p 0)) := h3
        rw [h3.imm_inv] at h1
        have h1 : xs[p * 1 + 0]? = _ := h1
        rw [Nat.mul_one, Nat.add_zero] at h1
        rw [h1]
        simp [Lib.byteCells, List.getD_eq_getElem?_getD, show p < l.length from by omega]
      · rw [List.getElem?_eq_none (by omega), List.getElem?_eq_none (by rw [Lib.byteCells_length]; omega)]
    have hbase : w.ownsRow w0.heap.size 5 1 (.slice (l2.A.map fun b => ⟨b, 0, none⟩) m l2.cap) m (Lib.byteCells l) := by
      rw [← hxsl]
      refine ⟨hown.1, ?_⟩
      rcases hown.2 with h0 | ⟨g', cap, cur, hv, _, r⟩
      · exact .inl h0
      · refine .inr ⟨g', cap, cur, hv, ?_, r⟩
        injection hv with hv _ _
        cases hA2 : l2.A with
        | none => rw [hA2] at hv; cases hv
        | some b2 =>
          rw [hA2] at hv
          injection hv with hv
          injection hv with hv
          subst hv
          exact notK 8002 _ l2 b2 h2 hl2 hA2
    have hne : ∀ b, l2.A = some b → bl ≠ b := by
      intro b hb he
      subst he
      exact absurd (r.inj 8001 8002 _ _ lc l2 bl h1 h2 hl hl2 hlA hb) (by decide)
    have hcap1 : lc.cap = 1 ∧ (vs 0 0 = .pointer none ∨ vs 0 0 = .pointer (some ⟨bl, 0, none⟩)) := by
      generalize vs 0 0 = u at r0
      cases r0 with
      | npn _ _ _ hc => exact ⟨hc lc hl hlg, .inl rfl⟩
      | npp _ _ _ _ hc hp =>
        refine ⟨hc lc hl hlg, .inr ?_⟩
        cases hp with
        | pt b' k' _ _ _ _ _ hh' =>
          obtain ⟨hb', hk'⟩ := hh' lc hl hlg
          rw [hlA] at hb'; injection hb' with hb'; subst hb'
          have hk0 : k' = 0 := by rw [hk']; simp
          rw [hk0]
    have hcs2 : cs = #[vs 0 0, vs 0 1] := by
      apply Array.ext_getElem?
      intro i
      match i with
      | 0 => exact k0
      | 1 => exact k1
      | i + 2 => rw [Array.getElem?_eq_none (by rw [hcs, hcap1.1]; show 1 * 2 ≤ i + 2; omega), Array.getElem?_eq_none (by simp)]
    have hat : ∀ p, vs 0 0 = p → Lib.BuilderAt 76 5 w0.heap.size bl p (Lib.byteCells l) w := by
      rintro p rfl
      refine ⟨hBl, vs 0 1, ?_, ?_, ?_⟩
      · have := hB
        unfold Blk at this
        rw [this, hcs2]
      · rw [hbuf, Lib.byteCells_length, ← hm]; exact hbase
      · rw [hbuf]
        cases hA2 : l2.A with
        | none => simp [Value.ownBlock]
        | some b2 =>
          intro he
          have : bl = b2 := by simp [Value.ownBlock] at he; exact he.symm
          exact hne b2 hA2 this
    have hbuilder : Lib.IsBuilder 76 5 w0.heap.size bl (Lib.byteCells l) w := hcap1.2.imp (fun h => hat _ h) (fun h => hat _ h)
    have hfn : FnOk Tryd.prog 48 := ⟨_, _, Tryd.func48, rfl, by kernel_rfl⟩
    unfold Oper.wp execOp
    have hargs : (#[x] : Array Operand).map a.eval = #[.pointer (some ⟨bl, 0, none⟩)] := by simp [hρ]
    simp only [resolve, Act.eval, Deferred.ofValue, invoke, Sem.run_bind, Sem.run_pure, Result.andThen_ok, Array.empty_append, Array.append_empty]
    rw [run_callFunc hfn]
    simp only [Oper.upon]
    rw [show (#[x] : Array Operand).map (fun x => a.eval x) = #[.pointer (some ⟨bl, 0, none⟩)] from hargs]
    refine (Tryd.Builder_String_any w0.heap.size bl l w hbuilder r.size).mono ?_
    rintro e w' ⟨rfl, hb⟩
    have hb0 : Below w0.heap.size w0 w' := by
      refine ⟨hb.os.trans r.os, hb.tape.trans r.tape, hb.output.trans r.output, Nat.le_trans r.size hb.size, fun k hk => (hb.block k hk).trans (r.keep k hk trivial)⟩
    have hFc : ∀ p, F p → (w0.cell? p).isSome = true := fun p hp => by
      have h1 : E.F p ∧ w.cell? p = w0.cell? p := e0.F p hp
      rw [← h1.2]; exact (r.frz p h1.1).2
    have hFs : ∀ p, F p → p.spot = none ∧ p.block < w0.heap.size := fun p hp => ⟨(r.frz p (e0.F p hp).1).1, lt_of_cell (hFc p hp)⟩
    have hex : Ext w0 (Env.just F) w' (Env.just F) := ⟨hb0.size, fun p hp => ⟨hp, World.cell?_of_block (hb0.block _ (hFs p hp).2)⟩, fun _ h => h, fun _ _ h _ => h⟩
    refine h _ w' ⟨Env.just F, hex, ⟨hb0.os, hb0.tape, hb0.output, hb0.size, fun k hk _ => hb0.block k hk, fun p hp => ?_, fun p hp => .inl hp, r.klib, r.lib, (fun id o ho => by cases ho), (fun id id' o o' l l' b ho => by cases ho)⟩, fun g hg => hg.elim, by simp [Act.put, hsz], hdf, fun t y hy => ?_⟩
    · exact ⟨(hFs p hp).1, by rw [World.cell?_of_block (hb0.block _ (hFs p hp).2)]; exact (hFc p hp)⟩
    · simp only [tget_cons] at hy
      split at hy
      · rename_i htd
        subst htd
        injection hy with hy
        subst hy
        rw [getD_put_same (by rw [hsz]; exact hlt)]
        exact .imm _
      · cases hy
end Go.Proofs.YtijpdbjcmnpobaaDoor
