/-
  The laws of signs.
-/
import Derived.Test.YtmcchhmgchgaaaaDoorLx9
namespace Go.Proofs.YtmcchhmgchgaaaaDoor
set_option linter.unusedSimpArgs false
set_option linter.unusedVariables false
set_option maxRecDepth 100000
open Go.RowKit

instance frz_sgs (l : List Sg) : Frz (sgsV l) := ⟨.sl _ _ _ _ fun i j _ _ => sg_fz _ j⟩
theorem lexR_len {s : List UInt8} : ∀ {f i : Nat} {out l : List Sg}, out.length ≤ 200 → lexR s f i out = .ok l → l.length ≤ 200
  | 0, i, out, l, h, e => by injection e with e; subst e; exact h
  | f + 1, i, out, l, h, e => by
    simp only [lexR] at e
    split at e
    · injection e with e; subst e; exact h
    split at e
    · exact lexR_len h e
    split at e
    · split at e <;> cases e
    · rename_i hne
      split at e
      · cases e
      · exact lexR_len (by rw [List.length_append]; show out.length + 1 ≤ 200; omega) e
theorem lexO_len (s : List UInt8) : (lexO (lexV s)).1.length ≤ 200 := by
  cases h : lexV s with
  | error e => exact Nat.zero_le _
  | ok l => exact lexR_len (Nat.zero_le _) h
end Go.Proofs.YtmcchhmgchgaaaaDoor

namespace Go.Proofs.YtmcchhmgchgaaaaDoor
set_option linter.unusedSimpArgs false
set_option linter.unusedVariables false
set_option maxRecDepth 100000
open Go.RowKit

theorem lexR_err {s : List UInt8} : ∀ {f i : Nat} {out : List Sg} {e : Int × Int}, lexR s f i out = .error e → e.2 ≠ 0
  | 0, i, out, e, h => by cases h
  | f + 1, i, out, e, h => by
    simp only [lexR] at h
    split at h
    · cases h
    rename_i hi
    split at h
    · exact lexR_err h
    split at h
    · split at h
      · injection h with h; subst h; show (4 : Int) ≠ 0; decide
      · injection h with h; subst h; exact wrong_ne s i
    · split at h
      · rename_i e' he
        injection h with h; subst h
        have := one_same s i (by omega)
        rw [he] at this
        exact this.2
      · exact lexR_err h
theorem lexV_err {s : List UInt8} {e : Int × Int} (h : lexV s = .error e) : (lexO (.error e)).2.2 ≠ 0 := lexR_err h
end Go.Proofs.YtmcchhmgchgaaaaDoor

namespace Go.Proofs.YtmcchhmgchgaaaaDoor
set_option linter.unusedSimpArgs false
set_option linter.unusedVariables false
set_option maxRecDepth 100000
open Go.RowKit

/-- Where a choice's loop stands. -/
def ChI (l : List Sg) (p : Nat) (out : List Pt) (bad : Bool) (q : Nat) (o : List Pt) (ks : List Int) : Prop :=
  (1 ≤ ks.length ∧ ks.length ≤ 2 * (q - p) + 1) ∧ p ≤ q ∧ q ≤ l.length ∧ match bad with
  | true => BadS l p q ∧ o.length + (if ks.length = 1 then 0 else 1) ≤ out.length + 2 * (q - p)
  | false => (kd l q ≠ 1 ∧ kd l q ≠ 2) ∧ ∃ ts, RowsS l p q ts ∧ o = out ++ T.flatL out.length ts ∧ ks = rootsL out.length ts
theorem ch_start {l : List Sg} {p q g : Nat} {out o : List Pt} {t : Option T} {r : Int} (h : RsOk l 2 p out ⟨t, q, g, o, r⟩) : ChI l p out t.isNone q o [r] := by
  have hle := rs_le h
  refine ⟨⟨Nat.le_refl _, by show 1 ≤ _; omega⟩, hle.1, hle.2.1, ?_⟩
  cases t with
  | none => exact ⟨h.1, h.2⟩
  | some t => exact ⟨h.2.2.2.1 (Nat.le_refl _), [t], rows_one h.1, by rw [show o = _ from h.2.1]; simp [T.flatL], by rw [show r = _ from h.2.2.1]; rfl⟩
theorem ch_next {l : List Sg} {p q q' g : Nat} {out o o' : List Pt} {ks : List Int} {t : Option T} {r : Int} (h : ChI l p out false q o ks) (hk : kd l q = 4) (h2 : RsOk l 2 (q + 1) o ⟨t, q', g, o', r⟩) : ChI l p out t.isNone q' o' (ks ++ [r]) := by
  have hle : q + 1 ≤ q' ∧ q' ≤ l.length ∧ o'.length ≤ o.length + 2 * (q' - (q + 1)) := rs_le h2
  obtain ⟨h1, hpq, hql, _, ts, hi, ho, hks⟩ := h
  have hlt := rows_lt hi
  have hol : o.length = out.length + T.sizeL ts := by rw [ho, List.length_append, T.flatL_len]
  have hkl : ks.length = ts.length := by rw [hks, rootsL_len]
  refine ⟨by rw [List.length_append]; show 1 ≤ ks.length + 1 ∧ ks.length + 1 ≤ _; omega, by omega, hle.2.1, ?_⟩
  cases t with
  | none =>
    refine ⟨bad_rows hi hk h2.1, ?_⟩
    rw [if_neg (by rw [List.length_append]; show ¬ ks.length + 1 = 1; omega)]
    have := hi.1
    omega
  | some t =>
    refine ⟨h2.2.2.2.1 (Nat.le_refl _), ts ++ [t], rows_snoc hi hk h2.1, ?_, ?_⟩
    · rw [show o' = _ from h2.2.1, ho, T.flatL_snoc, List.append_assoc, List.length_append, T.flatL_len]
    · rw [show r = _ from h2.2.2.1, hks, rootsL_snoc, hol]
theorem ch_le {l : List Sg} {p q : Nat} {out o : List Pt} {ks : List Int} {bad : Bool} (h : ChI l p out bad q o ks) : o.length ≤ out.length + 2 * (q - p) := by
  obtain ⟨h1, hpq, hql, h⟩ := h
  cases bad with
  | true => have := h.2; omega
  | false =>
    obtain ⟨_, ts, hi, ho, hks⟩ := h
    have := rows_lt hi
    rw [ho, List.length_append, T.flatL_len]; omega
theorem ch_meas {l : List Sg} {v q q' g : Nat} {o o' : List Pt} {t : Option T} {r : Int} (hq : q < l.length) (h : RsOk l v (q + 1) o ⟨t, q', g, o', r⟩) : 2 * (l.length - q') + (if t.isNone then 0 else 1) < 2 * (l.length - q) + (if false then 0 else 1) := by
  have hle : q + 1 ≤ q' ∧ q' ≤ l.length ∧ o'.length ≤ o.length + 2 * (q' - (q + 1)) := rs_le h
  cases t with
  | none => show _ + 0 < _ + 1; omega
  | some t => show _ + 1 < _ + 1; omega
theorem ch_done {l : List Sg} {p q : Nat} {out o : List Pt} {ks : List Int} {bad : Bool} (h : ChI l p out bad q o ks) (hk : bad = true ∨ kd l q ≠ 4) : ∃ tt : Option T, tt.isNone = bad ∧ ∀ y, manyP 3 o ks y → RsOk l 3 p out ⟨tt, q, y.1, y.2.1, y.2.2⟩ := by
  obtain ⟨h1, hpq, hql, h⟩ := h
  cases bad with
  | true => exact ⟨none, rfl, fun y hy => ⟨h.1, many_le (l := l) h.2 hy⟩⟩
  | false =>
    obtain ⟨hk2, ts, hi, ho, hks⟩ := h
    have hk := hk.resolve_left (by simp)
    have hkl : ks.length = ts.length := by rw [hks, rootsL_len]
    by_cases h2 : ts.length = 1
    · match ts, h2 with
      | [t], _ =>
        refine ⟨some t, rfl, fun y hy => ?_⟩
        have hy : y.2 = (o, ks.getD 0 0) := by unfold manyP at hy; rwa [if_pos (by simpa using hkl)] at hy
        refine ⟨rows_choice1 hi, ?_, ?_, fun _ => hk2, fun _ => hk⟩
        · show y.2.1 = _; rw [hy, ho]; simp [T.flatL]
        · show y.2.2 = _; rw [hy, hks]; rfl
    · refine ⟨some (.many 3 ts), rfl, fun y hy => ?_⟩
      have hy : y.2 = (o ++ [⟨3, 0, 0, [], ks⟩], (o.length : Int)) := by unfold manyP at hy; rwa [if_neg (by omega)] at hy
      refine ⟨rows_choice hi (by have := hi.1; omega), ?_, ?_, fun _ => hk2, fun _ => hk⟩
      · show y.2.1 = _; rw [hy, ho, hks]; simp [T.flat]
      · show y.2.2 = _; rw [hy, ho]; simp [T.root, T.size, T.flatL_len]; omega
theorem choice_h (l : List Sg) (g p : Nat) (hk : KdOk l) (hne : l ≠ []) (hl : l.length ≤ 1000) (hp : p ≤ l.length) (hrow : ∀ p', p ≤ p' → p' ≤ l.length → RsC 90 l 2 g p') : RsC 65 l 3 g p := by
  intro c g2 out ho
  refine hfun_of Tryd.func65 rfl (by kernel_rfl) _ _ _ _ rfl 36 rfl rfl (fun X ok hX => ?_)
  refine srg fun N h1 => ?_
  refine sta rfl rfl rfl ?_
  refine snl h1 ?_
  refine srg fun N h2 => ?_
  refine stm rfl rfl rfl ?_
  refine hf_callR 5 (xs := [_]) (pre := [(9001, _), (9002, _)]) (hrow p (Nat.le_refl _) hp _ g2 out ho) ⟨rfl, trivial⟩ (preC rfl (preC rfl pre0)) rfl rfl (fun x1 c1 hx => ?_)
  obtain ⟨t1, q1, g3, o3, r⟩ := x1
  (try dsimp only)
  refine hm_1 6 (hop_buildSlice (id := 6) (hs := [_]) ei_44 (nb rfl) rfl (nb rfl) ⟨rfl, rfl, rfl, rfl, trivial⟩) rfl rfl pre0 rfl rfl (c' := c1 + 1) rfl ?_
  refine sta rfl rfl rfl ?_
  refine snl h2 ?_
  refine hw_seq (fun Nh3 h3 => ?_)
  refine hw_block ?_
  refine hw_loopc (α := Bool × Nat × List Pt × List Int × Nat × Nat) (fun x c => ⟨36, [(0, .v (.pt 9001 g 0 0)), (3, .v (.os 6 x.2.2.2.2.2 0 x.2.2.2.1.length))], [(9001, erO g l x.2.1 x.2.2.2.2.1 x.2.2.1.length x.1), (9002, ptsO x.2.2.2.2.1 x.2.2.1), (6, ⟨x.2.2.2.2.2, x.2.2.2.1.length, 1, 3, 0, kidsF x.2.2.2.1⟩)], c⟩) (fun x => ChI l p out x.1 x.2.1 x.2.2.1 x.2.2.2.1) (fun x => 2 * (l.length - x.2.1) + (if x.1 then 0 else 1)) ((t1.isNone, q1, o3, [r], g3, c1)) (by exact ch_start hx) (hsub_of rfl (Nat.le_refl _) (TmSub.cons rfl (Sb.refl _) (TmSub.cons rfl (Sb.refl _) TmSub.nil)) (HpSub.cons rfl (OSub.refl _) (HpSub.cons rfl (OSub.refl _) (HpSub.cons rfl (OSub.of fun i j hi hj => by obtain rfl : i = 0 := (by omega); exact .refl _) HpSub.nil)))) (fun x c hx NhL4 hL4 => ?_)
  revert hx hL4; obtain ⟨bad, q, o, ks, gg, gk⟩ := x; intro hx hL4; dsimp only at hx hL4 ⊢
  obtain ⟨hq1, hq2, hq3, hR⟩ := hx
  have hI : ChI l p out bad q o ks := ⟨hq1, hq2, hq3, hR⟩; have hol := ch_le hI
  refine hw_seq (fun Nh5 h5 => ?_)
  refine srg fun N h6 => ?_
  refine stm rfl rfl rfl ?_
  refine st0 (hop_nilcheck_pt rfl) rfl rfl ?_
  refine st0 (hop_fa fd_106_2 rfl) rfl rfl ?_
  refine st1 (hol_load ty_4 rfl (nb rfl) (nb rfl) (fun h => (by rfl))) rfl rfl rfl ?_
  refine st0 (hop_not rfl) rfl rfl ?_
  refine stm rfl rfl rfl ?_
  refine stg 12 (fun hb => hop_move rfl) rfl rfl rfl rfl rfl ?_
  refine stg 12 (fun hb => hop_nilcheck_pt rfl) rfl rfl rfl rfl rfl ?_
  refine stg 12 (fun hb => hop_fa fd_106_0 rfl) rfl rfl rfl rfl rfl ?_
  refine hq_g 16 5 12 true _ (fun hb => hop_funR (xs := [_]) (pre := [(9001, _), (9002, _)]) (kind_h g l q gg o bad hl hI.2.2.1) ⟨rfl, trivial⟩) rfl rfl rfl rfl (preC rfl (preC rfl pre0)) rfl rfl rfl ?_
  refine stg 12 (fun hb => hop_eql rfl rfl) rfl rfl rfl rfl rfl ?_
  refine hq_p 18 (hstep_and _ _ rfl rfl rfl) rfl rfl rfl ?_
  refine hseq_nilU (by rfl) (by simp only [dropUn, slots]; exact rfl) ?_
  refine h6 _ ?_
  refine hw_cond _ rfl (fun hc0 => ?_) (fun hc0 => ?_)
  · have hr0 := hc0; (try simp only [hcs, Int.reduceToNat] at hc0)
    obtain ⟨rfl, hkq⟩ : bad = false ∧ kd l q = 4 := (by cases bad with | true => exact absurd hr0 (by simp) | false => exact ⟨rfl, by simpa using hr0⟩); have hlt := kd_lt (l := l) (i := q) (by rw [hkq]; decide)
    refine hw_skip ?_
    refine h5 _ ?_
    refine hw_block ?_
    refine srg fun N h7 => ?_
    refine stm rfl rfl rfl ?_
    refine st0 (hop_nilcheck_pt rfl) rfl rfl ?_
    refine st0 (hop_fa fd_106_0 rfl) rfl rfl ?_
    refine st0 (hop_fa fd_104_1 rfl) rfl rfl ?_
    refine st1 (hol_load ty_3 rfl (nb rfl) (nb rfl) (fun h => (by rfl))) rfl rfl rfl ?_
    refine st0 (hop_addi rfl rfl rfl (by omega) (by omega)) rfl rfl ?_
    refine st0 (hop_nilcheck_pt rfl) rfl rfl ?_
    refine st0 (hop_fa fd_106_0 rfl) rfl rfl ?_
    refine st0 (hop_fa fd_104_1 rfl) rfl rfl ?_
    refine hm_s1 (hol_store ty_3 rfl rfl rfl rfl (nb rfl) (nb rfl) (nb rfl)) rfl rfl (pre1 rfl) (c' := c + 1) rfl ?_
    refine snl h7 ?_
    refine (hsub_ob 9001 (erO g l (q + 1) gg o.length false) rfl (by exact osub4 (.refl _) (sb_int (by omega)) (.refl _) (.refl _))).wp ?_
    refine hw_region ?_
    refine stm rfl rfl rfl ?_
    refine stm rfl rfl rfl ?_
    refine hf_callR 30 (xs := [_]) (pre := [(9001, _), (9002, _)]) (hrow (q + 1) (by omega) hlt _ gg o (by omega)) ⟨rfl, trivial⟩ (preC rfl (preC rfl pre0)) rfl rfl (fun x2 c2 hx2 => ?_)
    obtain ⟨t, q', g4, o4, r'⟩ := x2
    (try dsimp only)
    refine hm_1 31 (hop_buildSlice (id := 31) (hs := [_]) ei_44 (nb rfl) rfl (nb rfl) ⟨rfl, rfl, rfl, rfl, trivial⟩) rfl rfl pre0 rfl rfl (c' := c2 + 1) rfl ?_
    refine hm_1 32 (hol_append ei_44 (nb rfl) rfl (by omega) (nb rfl) (srl_os0 rfl (nb rfl)) (by omega) rfl) rfl rfl (preC rfl (pre1 rfl)) rfl rfl (c' := c2 + 2) rfl ?_
    refine sta rfl rfl rfl ?_
    refine hseq_nil ?_
    refine hq_block ?_
    exact hL4 ((t.isNone, q', o4, ks ++ [r'], g4, c2 + 1)) _ _ (by (try dsimp only); exact ch_next hI hkq hx2) (by (try dsimp only); exact ch_meas hlt hx2) (hsub_of rfl (Nat.le_refl _) (TmSub.cons rfl (Sb.refl _) (TmSub.cons rfl (sb_os (by simp)) TmSub.nil)) (HpSub.cons rfl (OSub.refl _) (HpSub.cons rfl (OSub.refl _) (HpSub.cons rfl (osub_snoc (enc := fun x _ => intV x) (d := 0) rfl (fun i j _ _ => .refl _) (fun j hj => .refl _)) HpSub.nil))))
  have hr0 := hc0; (try simp only [hcs, Int.reduceToNat] at hc0)
  obtain ⟨tt, rfl, hdone⟩ := ch_done hI (by cases bad with | true => exact .inl rfl | false => right; simpa using hr0)
  refine hw_exit ?_
  refine hq_then_exit ?_
  refine hq_then_exit ?_
  refine hq_block_here ?_
  refine h3 _ ?_
  refine srg fun N h8 => ?_
  refine stm rfl rfl rfl ?_
  refine stm rfl rfl rfl ?_
  refine (hsub_shr 34 [(6, _)] rfl (preC rfl pre0) rfl ((show Fz _ _ (kidsV ks) from fz_row (l := ks) (enc := fun x _ => intV x) (d := 0) (List.mem_cons_self ..) rfl rfl (Nat.le_refl _) (fun i j hi hj => .imm _)))).seq ?_
  refine hf_callR 35 (xs := [_, _, _]) (pre := [(9001, _), (9002, _)]) (many_h _ g l q gg _ tt.isNone o 3 ks rfl (by omega)) ⟨rfl, ⟨rfl, ⟨rfl, trivial⟩⟩⟩ (preC rfl (preC rfl pre0)) rfl rfl (fun x3 c3 hy => ?_)
  obtain ⟨g5, o5, r5⟩ := x3
  (try dsimp only)
  refine sta rfl rfl rfl ?_
  refine snl h8 ?_
  refine hw_ret ?_
  refine hf_retR1 ok hX RetS.one rfl (rval_tmp rfl) [] rfl pre0 (⟨tt, q, g5, o5, r5⟩) (hdone _ hy) (by rfl) (by rfl) ((by first | exact .fz _ _ (.imm _) | exact .os _ _ _ _ _ rfl rfl | exact .pt _ _ _ _ _ rfl rfl | exact .nps _ _ _ rfl rfl | (dsimp only; exact .fz _ _ Frz.fz) | exact .fz _ _ (.tup 0 _ _ (fun i hi => absurd hi (Nat.not_lt_zero _))))) ?_
  exact ⟨⟨_, rfl, okz_er rfl rfl⟩, ⟨⟨_, rfl, okz_pts⟩, trivial⟩⟩
theorem read_h (l : List Sg) (g : Nat) (hk : KdOk l) (hne : l ≠ []) (hl : l.length ≤ 1000) : ∀ n p, l.length - p < n → p ≤ l.length → RsC 65 l 3 g p
  | 0, p, h, _ => absurd h (Nat.not_lt_zero _)
  | n + 1, p, h, hp => choice_h l g p hk hne hl hp fun p1 h1 hp1 => row_h l g p1 hk hne hl hp1 fun p2 h2 hp2 => item_h l g p2 hk hne hl hp2 fun p3 h3 hp3 => read_h l g hk hne hl n p3 (by omega) hp3
/-- What a text's parts are. -/
inductive ParseIs (s : List UInt8) : List Pt × Int × Int → Prop
  | err (e : Int × Int) : lexV s = .error e → ParseIs s ([], e.1, e.2)
  | none : lexV s = .ok [] → ParseIs s ([], 0, 0)
  | odd (l : List Sg) (q : Nat) : lexV s = .ok l → l ≠ [] → q < l.length → chk l 0 0 true true = ((q : Int), false) → ParseIs s ([], (l.getD q default).at_, 2)
  | end_ (l : List Sg) : lexV s = .ok l → l ≠ [] → chk l 0 0 true true = (-1, true) → ParseIs s ([], s.length, 5)
  | ok (l : List Sg) (t : T) : lexV s = .ok l → Seg l 3 0 l.length t → ParseIs s (T.flat 0 t, 0, 0)
@[reducible] def parseH (r : List Pt × Int × Int) : HV := t3 (ptsV r.1) (intV r.2.1) (intV r.2.2)
theorem sgW_kd {l : List Sg} (h : ∀ x ∈ l, SgW x) : KdOk l := fun x hx => by
  have := h x hx
  cases this with
  | name _ _ _ => exact ⟨by show (1 : Int) ≤ 1; decide, by show (1 : Int) ≤ 5; decide⟩
  | open_ => exact ⟨by show (1 : Int) ≤ 2; decide, by show (2 : Int) ≤ 5; decide⟩
  | shut => exact ⟨by show (1 : Int) ≤ 3; decide, by show (3 : Int) ≤ 5; decide⟩
  | or_ => exact ⟨by show (1 : Int) ≤ 4; decide, by show (4 : Int) ≤ 5; decide⟩
  | times _ => exact ⟨by show (1 : Int) ≤ 5; decide, by show (5 : Int) ≤ 5; decide⟩
theorem lex_err {s : List UInt8} {r : List Sg × Int × Int} (hr : lexO (lexV s) = r) (h : r.2.2 ≠ 0) : ParseIs s ([], r.2.1, r.2.2) := by
  cases hv : lexV s with
  | error e => rw [hv] at hr; subst hr; exact .err e hv
  | ok l => rw [hv] at hr; subst hr; exact absurd rfl h
theorem lex_fine {s : List UInt8} {r : List Sg × Int × Int} (hr : lexO (lexV s) = r) (h : r.2.2 = 0) : lexV s = .ok r.1 := by
  cases hv : lexV s with
  | error e => rw [hv] at hr; subst hr; exact absurd h (lexV_err hv)
  | ok l => rw [hv] at hr; subst hr; rfl
theorem parse_odd {s : List UInt8} {l : List Sg} {x : Rs} (hv : lexV s = .ok l) (hk : KdOk l) (hne : l ≠ []) (hx : RsOk l 3 0 [] x) (hq : x.q < l.length) : ParseIs s ([], (l.getD x.q default).at_, 2) := by
  obtain ⟨t, q, g, o, r⟩ := x
  cases t with
  | none => exact .odd l q hv hne hq (by rw [hx.1.bad 0 true]; exact badAt_lt hq)
  | some t => exact .odd l q hv hne hq (rest_bad hk hx.1 hq (hx.2.2.2.1 (by decide)).1 (hx.2.2.2.1 (by decide)).2 (hx.2.2.2.2 (by decide)))
theorem parse_end {s : List UInt8} {l : List Sg} {x : Rs} (hv : lexV s = .ok l) (hne : l ≠ []) (hx : RsOk l 3 0 [] x) (hq : l.length ≤ x.q) (hb : x.t.isNone = true) : ParseIs s ([], s.length, 5) := by
  obtain ⟨t, q, g, o, r⟩ := x
  cases t with
  | none => exact .end_ l hv hne (by rw [hx.1.bad 0 true]; exact badAt_end hq)
  | some t => cases hb
theorem parse_ok {s : List UInt8} {l : List Sg} {x : Rs} (hv : lexV s = .ok l) (hx : RsOk l 3 0 [] x) (hq : l.length ≤ x.q) (hb : x.t.isNone = false) : ParseIs s (x.out, 0, 0) := by
  obtain ⟨t, q, g, o, r⟩ := x
  cases t with
  | none => cases hb
  | some t =>
    have hql := seg_lt hx.1
    simp only at hql hq
    obtain rfl : q = l.length := by omega
    rw [show (⟨some t, l.length, g, o, r⟩ : Rs).out = [] ++ T.flat 0 t from hx.2.1]
    exact .ok l t hv hx.1
theorem parse_h (c : Nat) (s : List UInt8) (hs : s.length ≤ 1000000) : HFun Tryd.prog 43 c [strV s] [] (RetP (fun (r : List Pt × Int × Int) _ => ParseIs s r) parseH (fun _ => [])) := by
  have hlen := lexO_len s
  have hlx := lex_h s hs
  generalize hr : lexO (lexV s) = r at hlen hlx
  refine hfun_of Tryd.func43 rfl (by kernel_rfl) _ _ _ _ rfl 57 rfl rfl (fun X ok hX => ?_)
  refine srg fun N h1 => ?_
  refine sta rfl rfl rfl ?_
  refine sta rfl rfl rfl ?_
  refine sta rfl rfl rfl ?_
  refine snl h1 ?_
  refine srg fun N h2 => ?_
  refine stm rfl rfl rfl ?_
  refine st0 (hop_call0 (xs := [_]) (hlx) ⟨rfl, trivial⟩ ⟨(Fz.eq rfl), trivial⟩) rfl rfl ?_
  refine stm rfl rfl rfl ?_
  refine st0 (hop_extract rfl rfl) rfl rfl ?_
  refine st0 (hop_extract rfl rfl) rfl rfl ?_
  refine st0 (hop_extract rfl rfl) rfl rfl ?_
  refine sta rfl rfl rfl ?_
  refine sta rfl rfl rfl ?_
  refine sta rfl rfl rfl ?_
  refine snl h2 ?_
  refine hw_seq (fun Nh3 h3 => ?_)
  refine srg fun N h4 => ?_
  refine stm rfl rfl rfl ?_
  refine st0 (hop_neq rfl rfl) rfl rfl ?_
  refine snl h4 ?_
  refine hw_cond _ rfl (fun hc0 => ?_) (fun hc0 => ?_)
  · have hr0 := hc0; (try simp only [hcs, Int.reduceToNat] at hc0)
    refine srg fun N h5 => ?_
    refine stm rfl rfl rfl ?_
    refine stm rfl rfl rfl ?_
    refine sta rfl rfl rfl ?_
    refine sta rfl rfl rfl ?_
    refine sta rfl rfl rfl ?_
    refine snl h5 ?_
    refine hw_ret ?_
    refine hq_then_ret ?_
    refine hf_retR3 ok hX RetS.one rfl (rval_tmp rfl) (rval_tmp rfl) (rval_tmp rfl) [] rfl pre0 (([], r.2.1, r.2.2)) (lex_err hr hc0) (by rfl) (by rfl) (kz_t3 (.fz _ _ (.nil 0 5 _ (by decide) none)) (by first | exact .fz _ _ (.imm _) | exact .os _ _ _ _ _ rfl rfl | exact .pt _ _ _ _ _ rfl rfl | exact .nps _ _ _ rfl rfl | (dsimp only; exact .fz _ _ Frz.fz) | exact .fz _ _ (.tup 0 _ _ (fun i hi => absurd hi (Nat.not_lt_zero _)))) (by first | exact .fz _ _ (.imm _) | exact .os _ _ _ _ _ rfl rfl | exact .pt _ _ _ _ _ rfl rfl | exact .nps _ _ _ rfl rfl | (dsimp only; exact .fz _ _ Frz.fz) | exact .fz _ _ (.tup 0 _ _ (fun i hi => absurd hi (Nat.not_lt_zero _))))) ?_
    exact trivial
  have hr0 := hc0; (try simp only [hcs, Int.reduceToNat] at hc0)
  have hv := lex_fine hr hc0; have hk := sgW_kd (lexV_W hv)
  refine hw_skip ?_
  refine h3 _ ?_
  refine hw_seq (fun Nh6 h6 => ?_)
  refine srg fun N h7 => ?_
  refine stm rfl rfl rfl ?_
  refine st0 (hop_len_sl (T := 86) rfl (elOf_spec el_86).1 rfl) rfl rfl ?_
  refine st0 (hop_eql rfl rfl) rfl rfl ?_
  refine snl h7 ?_
  refine hw_cond _ rfl (fun hc1 => ?_) (fun hc1 => ?_)
  · have hr1 := hc1; (try simp only [hcs, Int.reduceToNat] at hc1)
    refine srg fun N h8 => ?_
    refine sta rfl rfl rfl ?_
    refine sta rfl rfl rfl ?_
    refine sta rfl rfl rfl ?_
    refine snl h8 ?_
    refine hw_ret ?_
    refine hq_then_ret ?_
    refine hf_retR3 ok hX RetS.one rfl (rval_tmp rfl) (rval_tmp rfl) (rval_tmp rfl) [] rfl pre0 (([], 0, 0)) (.none (by rw [hv, List.length_eq_zero_iff.1 (show r.1.length = 0 by omega)])) (by rfl) (by rfl) (kz_t3 (.fz _ _ (.nil 0 5 _ (by decide) none)) (by first | exact .fz _ _ (.imm _) | exact .os _ _ _ _ _ rfl rfl | exact .pt _ _ _ _ _ rfl rfl | exact .nps _ _ _ rfl rfl | (dsimp only; exact .fz _ _ Frz.fz) | exact .fz _ _ (.tup 0 _ _ (fun i hi => absurd hi (Nat.not_lt_zero _)))) (by first | exact .fz _ _ (.imm _) | exact .os _ _ _ _ _ rfl rfl | exact .pt _ _ _ _ _ rfl rfl | exact .nps _ _ _ rfl rfl | (dsimp only; exact .fz _ _ Frz.fz) | exact .fz _ _ (.tup 0 _ _ (fun i hi => absurd hi (Nat.not_lt_zero _))))) ?_
    exact trivial
  have hr1 := hc1; (try simp only [hcs, Int.reduceToNat] at hc1)
  have hne : r.1 ≠ [] := (fun h => by rw [h] at hc1; exact hc1 rfl)
  refine hw_skip ?_
  refine h6 _ ?_
  refine srg fun N h9 => ?_
  refine stm rfl rfl rfl ?_
  refine st0 (hop_build (hs := [(0, 1, _)]) st_104 rfl rfl ⟨rfl, rfl, rfl, rfl, rfl, trivial⟩) rfl rfl ?_
  refine st0 (hop_build (hs := [(0, 2, _)]) st_106 rfl rfl ⟨rfl, rfl, rfl, rfl, rfl, trivial⟩) rfl rfl ?_
  refine hm_1 25 (hop_box (id := 9001) (sz := 4) rfl rfl rfl (by decide) (by decide)) rfl rfl pre0 rfl rfl (c' := c + 1) rfl ?_
  refine sta rfl rfl rfl ?_
  refine snl h9 ?_
  refine hw_seq (fun Nh10 h10 => ?_)
  refine (hsub_ownc 9001 2 9002 5 75 (ptsF []) (erF r.1 0 (c + 1) 0 false) rfl rfl (fun j hj => by match j, hj with | 0, _ => exact .inr rfl | 1, _ => exact .inr rfl | 2, _ => exact .inl ⟨rfl, rfl⟩ | 3, _ => exact .inr rfl) (by decide) (by decide) (c' := c + 2) rfl).wp ?_
  refine hw_region ?_
  refine stm rfl rfl rfl ?_
  refine hf_callR 27 (xs := [_]) (pre := [(9001, _), (9002, _)]) (read_h r.1 c hk hne (by omega) _ 0 (Nat.lt_succ_self _) (Nat.zero_le _) _ (c + 1) [] (by simp)) ⟨rfl, trivial⟩ (preC rfl (preC rfl pre0)) rfl rfl (fun x1 c1 hx => ?_)
  obtain ⟨t, q, g2, o2, r2⟩ := x1
  (try dsimp only)
  refine snl h10 ?_
  refine hw_seq (fun Nh11 h11 => ?_)
  refine hw_block ?_
  refine hw_seq (fun Nh12 h12 => ?_)
  have hle : 0 ≤ q ∧ q ≤ r.1.length ∧ o2.length ≤ 0 + 2 * (q - 0) := rs_le hx
  refine hw_region ?_
  refine stm rfl rfl rfl ?_
  refine st0 (hop_nilcheck_pt rfl) rfl rfl ?_
  refine st0 (hop_fa fd_106_0 rfl) rfl rfl ?_
  refine st0 (hop_fa fd_104_1 rfl) rfl rfl ?_
  refine st1 (hol_load ty_3 rfl (nb rfl) (nb rfl) (fun h => (by rfl))) rfl rfl rfl ?_
  refine stm rfl rfl rfl ?_
  refine st0 (hop_len_sl (T := 86) rfl (elOf_spec el_86).1 rfl) rfl rfl ?_
  refine st0 (hop_lss rfl rfl) rfl rfl ?_
  refine sta rfl rfl rfl ?_
  refine snl h12 ?_
  refine hw_cond _ rfl (fun hc2 => ?_) (fun hc2 => ?_)
  · have hr2 := hc2; (try simp only [hcs, Int.reduceToNat] at hc2)
    refine hw_seq (fun Nh13 h13 => ?_)
    refine hd_start ?_
    refine hd_q 37 (hop_move rfl) rfl rfl pre0 rfl rfl (k' := 1) rfl ?_
    refine hd_q 38 (hop_move rfl) rfl rfl pre0 rfl rfl (k' := 2) rfl ?_
    refine hd_q 39 (hop_nilcheck_pt rfl) rfl rfl pre0 rfl rfl (k' := 3) rfl ?_
    refine hd_q 40 (hop_fa fd_106_0 rfl) rfl rfl pre0 rfl rfl (k' := 4) rfl ?_
    refine hd_q 41 (hop_fa fd_104_1 rfl) rfl rfl pre0 rfl rfl (k' := 5) rfl ?_
    refine hd_q 42 (hol_load ty_3 rfl (nb rfl) (nb rfl) (fun h => (by rfl))) rfl rfl (pre1 rfl) rfl rfl (k' := 6) rfl ?_
    refine hd_q 43 (hop_ia_sl el_86 rfl rfl (by omega) (by omega) (nb rfl)) rfl rfl pre0 rfl rfl (k' := 7) rfl ?_
    refine hd_q 44 (hop_fa_fp fd_108_1 rfl (nb rfl)) rfl rfl pre0 rfl rfl (k' := 8) rfl ?_
    refine hd_q 45 (hop_load_fp ty_3 rfl (nb rfl) (fun h => (by rfl))) rfl rfl pre0 rfl rfl (k' := 9) rfl ?_
    refine hd_q 2 (hop_assign rfl) rfl rfl pre0 rfl rfl (k' := 10) rfl ?_
    refine hd_q 3 (hop_assign rfl) rfl rfl pre0 rfl rfl (k' := 11) rfl ?_
    refine hd_q 4 (hop_assign rfl) rfl rfl pre0 rfl rfl (k' := 12) rfl ?_
    refine hd_nil (by kernel_rfl) (by kernel_rfl) (c' := c1 + 12) rfl ?_
    refine h13 _ ?_
    refine hw_ret ?_
    refine hq_block_ret ?_
    refine hq_then_ret ?_
    refine hf_retR3 ok hX RetS.one rfl (rval_tmp rfl) (rval_tmp rfl) (rval_tmp rfl) [] rfl pre0 (([], (r.1.getD q default).at_, 2)) (parse_odd hv hk hne hx (show q < r.1.length by omega)) (by rfl) (by rfl) (kz_t3 (.fz _ _ (.nil 0 5 _ (by decide) none)) (by first | exact .fz _ _ (.imm _) | exact .os _ _ _ _ _ rfl rfl | exact .pt _ _ _ _ _ rfl rfl | exact .nps _ _ _ rfl rfl | (dsimp only; exact .fz _ _ Frz.fz) | exact .fz _ _ (.tup 0 _ _ (fun i hi => absurd hi (Nat.not_lt_zero _)))) (by first | exact .fz _ _ (.imm _) | exact .os _ _ _ _ _ rfl rfl | exact .pt _ _ _ _ _ rfl rfl | exact .nps _ _ _ rfl rfl | (dsimp only; exact .fz _ _ Frz.fz) | exact .fz _ _ (.tup 0 _ _ (fun i hi => absurd hi (Nat.not_lt_zero _))))) ?_
    exact trivial
  have hr2 := hc2; (try simp only [hcs, Int.reduceToNat] at hc2)
  refine srg fun N h14 => ?_
  refine stm rfl rfl rfl ?_
  refine st0 (hop_nilcheck_pt rfl) rfl rfl ?_
  refine st0 (hop_fa fd_106_2 rfl) rfl rfl ?_
  refine st1 (hol_load ty_4 rfl (nb rfl) (nb rfl) (fun h => (by rfl))) rfl rfl rfl ?_
  refine sta rfl rfl rfl ?_
  refine snl h14 ?_
  refine hw_cond _ rfl (fun hc3 => ?_) (fun hc3 => ?_)
  · have hr3 := hc3; (try simp only [hcs, Int.reduceToNat] at hc3)
    refine srg fun N h15 => ?_
    refine stm rfl rfl rfl ?_
    refine st0 (hop_len_strl (T := 9) rfl (by kernel_rfl) rfl) rfl rfl ?_
    refine sta rfl rfl rfl ?_
    refine sta rfl rfl rfl ?_
    refine sta rfl rfl rfl ?_
    refine snl h15 ?_
    refine hw_ret ?_
    refine hq_block_ret ?_
    refine hq_then_ret ?_
    refine hf_retR3 ok hX RetS.one rfl (rval_tmp rfl) (rval_tmp rfl) (rval_tmp rfl) [] rfl pre0 (([], (s.length : Int), 5)) (parse_end hv hne hx (show r.1.length ≤ q by omega) hc3) (by rfl) (by rfl) (kz_t3 (.fz _ _ (.nil 0 5 _ (by decide) none)) (by first | exact .fz _ _ (.imm _) | exact .os _ _ _ _ _ rfl rfl | exact .pt _ _ _ _ _ rfl rfl | exact .nps _ _ _ rfl rfl | (dsimp only; exact .fz _ _ Frz.fz) | exact .fz _ _ (.tup 0 _ _ (fun i hi => absurd hi (Nat.not_lt_zero _)))) (by first | exact .fz _ _ (.imm _) | exact .os _ _ _ _ _ rfl rfl | exact .pt _ _ _ _ _ rfl rfl | exact .nps _ _ _ rfl rfl | (dsimp only; exact .fz _ _ Frz.fz) | exact .fz _ _ (.tup 0 _ _ (fun i hi => absurd hi (Nat.not_lt_zero _))))) ?_
    exact trivial
  have hr3 := hc3; (try simp only [hcs, Int.reduceToNat] at hc3)
  refine hw_skip ?_
  refine hq_block ?_
  refine h11 _ ?_
  refine srg fun N h16 => ?_
  refine stm rfl rfl rfl ?_
  refine st0 (hop_nilcheck_pt rfl) rfl rfl ?_
  refine st0 (hop_fa fd_106_1 rfl) rfl rfl ?_
  refine st1 (hol_load ty_49 rfl (nb rfl) (nb rfl) (fun h => (by rfl))) rfl rfl rfl ?_
  refine sta rfl rfl rfl ?_
  refine sta rfl rfl rfl ?_
  refine sta rfl rfl rfl ?_
  refine snl h16 ?_
  refine hw_ret ?_
  refine hf_retR3 ok hX RetS.one rfl (rval_tmp rfl) (rval_tmp rfl) (rval_tmp rfl) [(9002, _)] rfl (preC rfl pre0) ((o2, 0, 0)) (parse_ok hv hx (show r.1.length ≤ q by omega) hc3) (by rfl) (by rfl) (kz_t3 (.fz _ _ (fz_row (l := o2) (enc := ptF) (d := default) (List.mem_cons_self ..) rfl rfl (Nat.le_refl _) (fun i j hi hj => pt_fz _ j))) (by first | exact .fz _ _ (.imm _) | exact .os _ _ _ _ _ rfl rfl | exact .pt _ _ _ _ _ rfl rfl | exact .nps _ _ _ rfl rfl | (dsimp only; exact .fz _ _ Frz.fz) | exact .fz _ _ (.tup 0 _ _ (fun i hi => absurd hi (Nat.not_lt_zero _)))) (by first | exact .fz _ _ (.imm _) | exact .os _ _ _ _ _ rfl rfl | exact .pt _ _ _ _ _ rfl rfl | exact .nps _ _ _ rfl rfl | (dsimp only; exact .fz _ _ Frz.fz) | exact .fz _ _ (.tup 0 _ _ (fun i hi => absurd hi (Nat.not_lt_zero _))))) ?_
  exact trivial
end Go.Proofs.YtmcchhmgchgaaaaDoor

namespace Go.Proofs.YtmcchhmgchgaaaaDoor
set_option linter.unusedSimpArgs false
set_option linter.unusedVariables false

/-- The end of a stretch is one. -/
@[reducible] def EndOk (l : List Sg) (v q : Nat) : Prop := (2 ≤ v → kd l q ≠ 1 ∧ kd l q ≠ 2) ∧ (3 ≤ v → kd l q ≠ 4)
/-- An expression is read in one way. -/
theorem seg_det {l : List Sg} {v p q : Nat} {t : T} (h : Seg l v p q t) : ∀ {q' : Nat} {t' : T}, Seg l v p q' t' → EndOk l v q → EndOk l v q' → q = q' ∧ t = t' := by
  induction h with
  | name p h =>
    intro q' t' h' _ _
    cases h' with
    | name _ _ => exact ⟨rfl, rfl⟩
    | group _ _ _ h2 _ _ => rw [h] at h2; exact absurd h2 (by decide)
  | group p q t h hs h3 ih =>
    intro q' t' h' _ _
    cases h' with
    | name _ h2 => rw [h] at h2; exact absurd h2 (by decide)
    | group _ q2 _ h2 hs2 h32 =>
      have := ih hs2 ⟨fun _ => by rw [h3]; decide, fun _ => by rw [h3]; decide⟩ ⟨fun _ => by rw [h32]; decide, fun _ => by rw [h32]; decide⟩
      exact ⟨by rw [this.1], this.2⟩
  | item p q t hs h5 ih =>
    intro q' t' h' _ _
    have e : EndOk l 0 = fun _ => EndOk l 0 0 := by funext q; simp [EndOk]
    cases h' with
    | item _ _ _ hs2 h52 => exact ih hs2 ⟨fun h => absurd h (by decide), fun h => absurd h (by decide)⟩ ⟨fun h => absurd h (by decide), fun h => absurd h (by decide)⟩
    | times _ q2 t2 hs2 h52 =>
      have := ih hs2 ⟨fun h => absurd h (by decide), fun h => absurd h (by decide)⟩ ⟨fun h => absurd h (by decide), fun h => absurd h (by decide)⟩
      rw [this.1] at h5; exact absurd h52 h5
  | times p q t hs h5 ih =>
    intro q' t' h' _ _
    cases h' with
    | item _ _ _ hs2 h52 =>
      have := ih hs2 ⟨fun h => absurd h (by decide), fun h => absurd h (by decide)⟩ ⟨fun h => absurd h (by decide), fun h => absurd h (by decide)⟩
      rw [this.1] at h5; exact absurd h5 h52
    | times _ q2 t2 hs2 h52 =>
      have := ih hs2 ⟨fun h => absurd h (by decide), fun h => absurd h (by decide)⟩ ⟨fun h => absurd h (by decide), fun h => absurd h (by decide)⟩
      rw [this.1, this.2]; exact ⟨rfl, rfl⟩
  | row1 p q t hs ih =>
    intro q' t' h' he he'
    cases h' with
    | row1 _ _ _ hs2 => exact ih hs2 ⟨fun h => absurd h (by decide), fun h => absurd h (by decide)⟩ ⟨fun h => absurd h (by decide), fun h => absurd h (by decide)⟩
    | row _ _ ts c h2 h0 hq hs2 =>
      have a := hs2 0 (by omega)
      rw [h0] at a
      have b := ih a ⟨fun h => absurd h (by decide), fun h => absurd h (by decide)⟩ ⟨fun h => absurd h (by decide), fun h => absurd h (by decide)⟩
      have d := seg_first (hs2 1 (by omega))
      rw [← b.1] at d
      have := he.1 (by decide)
      exact absurd d (by omega)
  | row p q ts c h2 h0 hq hs ih =>
    intro q' t' h' he he'
    cases h' with
    | row1 _ _ _ hs2 =>
      have b := ih 0 (by omega) (h0.symm ▸ hs2) ⟨fun h => absurd h (by decide), fun h => absurd h (by decide)⟩ ⟨fun h => absurd h (by decide), fun h => absurd h (by decide)⟩
      have d := seg_first (hs 1 (by omega))
      rw [b.1] at d
      have := he'.1 (by decide)
      exact absurd d (by omega)
    | row _ _ ts2 c2 h22 h02 hq2 hs2 =>
      have key : ∀ i, i ≤ ts.length → i ≤ ts2.length → c i = c2 i ∧ ∀ j, j < i → ts.getD j default = ts2.getD j default := by
        intro i
        induction i with
        | zero => intro _ _; exact ⟨by rw [h0, h02], fun j hj => absurd hj (Nat.not_lt_zero _)⟩
        | succ i ihi =>
          intro h1 h3
          have a := ihi (by omega) (by omega)
          have b := ih i h1 (a.1 ▸ hs2 i h3) ⟨fun h => absurd h (by decide), fun h => absurd h (by decide)⟩ ⟨fun h => absurd h (by decide), fun h => absurd h (by decide)⟩
          refine ⟨b.1, fun j hj => ?_⟩
          by_cases e : j = i
          · subst e; exact b.2
          · exact a.2 j (by omega)
      have hlen : ts.length = ts2.length := by
        rcases Nat.lt_trichotomy ts.length ts2.length with h | h | h
        · have a := (key ts.length (Nat.le_refl _) (by omega)).1
          have d := seg_first (hs2 ts.length h)
          rw [← a, hq] at d
          have := he.1 (by decide); exact absurd d (by omega)
        · exact h
        · have a := (key ts2.length (by omega) (Nat.le_refl _)).1
          have d := seg_first (hs ts2.length h)
          rw [a, hq2] at d
          have := he'.1 (by decide); exact absurd d (by omega)
      have k := key ts.length (Nat.le_refl _) (by omega)
      refine ⟨by rw [← hq, k.1, hlen, hq2], ?_⟩
      congr 1
      apply List.ext_getElem hlen
      intro i h1 h3
      have := k.2 i h1
      rwa [List.getD_eq_getElem?_getD, List.getD_eq_getElem?_getD, List.getElem?_eq_getElem h1, List.getElem?_eq_getElem h3] at this
  | choice1 p q t hs ih =>
    intro q' t' h' he he'
    cases h' with
    | choice1 _ _ _ hs2 => exact ih hs2 ⟨fun _ => he.1 (by decide), fun h => absurd h (by decide)⟩ ⟨fun _ => he'.1 (by decide), fun h => absurd h (by decide)⟩
    | choice _ _ ts c e h2 h0 hq hs2 hg =>
      have a := hs2 0 (by omega)
      rw [h0] at a
      have g := (hg 0 (by omega)).1
      have b := ih a ⟨fun _ => he.1 (by decide), fun h => absurd h (by decide)⟩ ⟨fun _ => by rw [g]; decide, fun h => absurd h (by decide)⟩
      rw [← b.1] at g
      exact absurd g (he.2 (by decide))
  | choice p q ts c e h2 h0 hq hs hg ih =>
    intro q' t' h' he he'
    have e4 : ∀ i, i + 1 < ts.length → EndOk l 2 (e i) := fun i hi => ⟨fun _ => by rw [(hg i hi).1]; decide, fun h => absurd h (by decide)⟩
    cases h' with
    | choice1 _ _ _ hs2 =>
      have b := ih 0 (by omega) (h0.symm ▸ hs2) (e4 0 (by omega)) ⟨fun _ => he'.1 (by decide), fun h => absurd h (by decide)⟩
      have g := (hg 0 (by omega)).1
      rw [b.1] at g
      exact absurd g (he'.2 (by decide))
    | choice _ _ ts2 c2 e2 h22 h02 hq2 hs2 hg2 =>
      have e42 : ∀ i, i + 1 < ts2.length → EndOk l 2 (e2 i) := fun i hi => ⟨fun _ => by rw [(hg2 i hi).1]; decide, fun h => absurd h (by decide)⟩
      have en : ∀ i, i < ts.length → EndOk l 2 (e i) := fun i hi => by
        by_cases h : i + 1 < ts.length
        · exact e4 i h
        · rw [show i = ts.length - 1 by omega, hq]; exact ⟨fun _ => he.1 (by decide), fun h => absurd h (by decide)⟩
      have en2 : ∀ i, i < ts2.length → EndOk l 2 (e2 i) := fun i hi => by
        by_cases h : i + 1 < ts2.length
        · exact e42 i h
        · rw [show i = ts2.length - 1 by omega, hq2]; exact ⟨fun _ => he'.1 (by decide), fun h => absurd h (by decide)⟩
      have key : ∀ i, i < ts.length → i < ts2.length → c i = c2 i ∧ e i = e2 i ∧ ∀ j, j < i + 1 → ts.getD j default = ts2.getD j default := by
        intro i
        induction i with
        | zero =>
          intro h1 h3
          have b := ih 0 h1 ((h0.trans h02.symm) ▸ hs2 0 h3) (en 0 h1) (en2 0 h3)
          exact ⟨by rw [h0, h02], b.1, fun j hj => by obtain rfl : j = 0 := by omega
                                                      exact b.2⟩
        | succ i ihi =>
          intro h1 h3
          have a := ihi (by omega) (by omega)
          have hc : c (i + 1) = c2 (i + 1) := by rw [(hg i h1).2, (hg2 i h3).2, a.2.1]
          have b := ih (i + 1) h1 (hc ▸ hs2 (i + 1) h3) (en _ h1) (en2 _ h3)
          refine ⟨hc, b.1, fun j hj => ?_⟩
          by_cases e : j = i + 1
          · subst e; exact b.2
          · exact a.2.2 j (by omega)
      have hlen : ts.length = ts2.length := by
        rcases Nat.lt_trichotomy ts.length ts2.length with h | h | h
        · have a := (key (ts.length - 1) (by omega) (by omega)).2.1
          have d := (hg2 (ts.length - 1) (by omega)).1
          rw [← a, hq] at d
          exact absurd d (he.2 (by decide))
        · exact h
        · have a := (key (ts2.length - 1) (by omega) (by omega)).2.1
          have d := (hg (ts2.length - 1) (by omega)).1
          rw [a, hq2] at d
          exact absurd d (he'.2 (by decide))
      have k := key (ts.length - 1) (by omega) (by omega)
      refine ⟨by rw [← hq, k.2.1, hlen, hq2], ?_⟩
      congr 1
      apply List.ext_getElem hlen
      intro i h1 h3
      have := k.2.2 i (by omega)
      rwa [List.getD_eq_getElem?_getD, List.getD_eq_getElem?_getD, List.getElem?_eq_getElem h1, List.getElem?_eq_getElem h3] at this
end Go.Proofs.YtmcchhmgchgaaaaDoor

namespace Go.Proofs.YtmcchhmgchgaaaaDoor
set_option linter.unusedSimpArgs false
set_option linter.unusedVariables false
set_option maxRecDepth 100000
open Go.RowKit

end Go.Proofs.YtmcchhmgchgaaaaDoor

namespace Go.Proofs.YtmcchhmgchgaaaaDoor
set_option linter.unusedSimpArgs false
set_option linter.unusedVariables false
set_option maxRecDepth 100000
set_option maxHeartbeats 4000000
open Go.RowKit

theorem kz_os {kp sh : List (Nat × HObj)} {id g lo n n' : Nat} {o : HObj} (h : hget kp id = some o) (hg : o.g = g) (hn : n = n') : Kz kp sh (.os id g lo n) (.os id g lo n') := by subst hn; exact .os _ _ _ _ _ h hg
theorem osub5 {g ty fl : Nat} {f f' : Nat → Nat → HV} (h0 : Sb (f 0 0) (f' 0 0)) (h1 : Sb (f 0 1) (f' 0 1)) (h2 : Sb (f 0 2) (f' 0 2)) (h3 : Sb (f 0 3) (f' 0 3)) (h4 : Sb (f 0 4) (f' 0 4)) (hfn : fl ≤ 1 := by exact Nat.zero_le _) : OSub ⟨g, 1, 5, ty, fl, f⟩ ⟨g, 1, 5, ty, fl, f'⟩ := .of (hfn := hfn) fun i j hi hj => by
  obtain rfl : i = 0 := by omega
  match j, hj with | 0, _ => exact h0 | 1, _ => exact h1 | 2, _ => exact h2 | 3, _ => exact h3 | 4, _ => exact h4
theorem kids_at {B : List Int} {i j : Nat} {x : Int} (hj : j = i) (h : B.getD i 0 = x) : ldv false 1 (kidsF B j) 0 = intV x := by subst hj; show intV (B.getD j 0) = _; rw [h]
/-- The kids that have been laid. -/
structure KidI (ts : List T) (out : List Pt) (i : Nat) (o : List Pt) (ks : List Int) : Prop where
  le : i ≤ ts.length
  eo : o = out ++ T.flatL out.length (ts.take i)
  ek : ks = rootsL out.length (ts.take i)
/-- The places between pieces. -/
structure Cuts (l : List Sg) (B : List Int) (m p q : Nat) (ts : List T) (s e : Nat → Nat) : Prop where
  hlen : B.length = m + 1
  hm : m = ts.length
  htwo : 2 ≤ m
  hmb : m ≤ 2000
  hat : ∀ i, i < m → B.getD i 0 = (s i : Int)
  hle : ∀ i, i < m → s i ≤ e i ∧ e i ≤ l.length
  hout : ∀ i, i < m → T.sizeL (ts.take i) + 2 * p ≤ 2 * s i
  hsz : ∀ i, i < m → (ts.getD i default).size + 2 * s i ≤ 2 * e i
  hall : T.sizeL ts + 2 * p ≤ 2 * q
end Go.Proofs.YtmcchhmgchgaaaaDoor

namespace Go.Proofs.YtmcchhmgchgaaaaDoor
set_option linter.unusedSimpArgs false
set_option linter.unusedVariables false
set_option maxRecDepth 100000
open Go.RowKit

end Go.Proofs.YtmcchhmgchgaaaaDoor

namespace Go.Proofs.YtmcchhmgchgaaaaDoor
set_option linter.unusedSimpArgs false
set_option linter.unusedVariables false

def nameV (s : List UInt8) : Bool := match lexV s with | .ok [x] => decide (x.kind = 1) && decide (x.name = s) | _ => false
def aloneV (x : Pt) : Bool :=
  if x.kind = 1 then decide (x.kids.length = 0) && decide (x.low = 0) && decide (x.high = 0) && nameV x.name
  else if x.kind = 2 ∨ x.kind = 3 then decide (1 < x.kids.length) && decide (x.low = 0) && decide (x.high = 0) && decide (x.name = [])
  else if x.kind = 4 then decide (x.kids.length = 1) && decide (0 ≤ x.low) && decide (x.low ≤ 20) && (decide (x.high = -1) || decide ((if 1 > x.low then 1 else x.low) ≤ x.high) && decide (x.high ≤ 20)) && decide (x.name = [])
  else false
/-- The stack of what isn't yet a kid. -/
def rightL (n : Nat) : Nat → List Pt → List Int → Bool
  | _, [], op => decide (op.length = 1) || decide (n = 0)
  | i, x :: r, op => (aloneV x && (decide (x.kids.length ≤ op.length) && decide (op.drop (op.length - x.kids.length) = x.kids))) && rightL n (i + 1) r (op.take (op.length - x.kids.length) ++ [(i : Int)])
def rightV (e : List Pt) : Bool := rightL e.length 0 e []
mutual
/-- A tree whose parts may be. -/
def T.ok : T → Bool
  | .name s => nameV s
  | .times lo hi t => decide (0 ≤ lo) && decide (lo ≤ 20) && (decide (hi = -1) || decide ((if 1 > lo then 1 else lo) ≤ hi) && decide (hi ≤ 20)) && T.ok t
  | .many k ts => (decide (k = 2) || decide (k = 3)) && decide (2 ≤ ts.length) && T.okL ts
def T.okL : List T → Bool
  | [] => true
  | t :: ts => T.ok t && T.okL ts
end
theorem drop_app_len {α : Type} (a b : List α) : (a ++ b).drop ((a ++ b).length - b.length) = b := by
  rw [List.length_append, Nat.add_sub_cancel]; simp
theorem take_app_len {α : Type} (a b : List α) : (a ++ b).take ((a ++ b).length - b.length) = a := by
  rw [List.length_append, Nat.add_sub_cancel]; simp
mutual
/-- A tree's parts leave its root on the stack. -/
theorem right_flat (n : Nat) : ∀ (t : T) (b : Nat) (r : List Pt) (op : List Int), t.ok = true → rightL n b (T.flat b t ++ r) op = rightL n (b + t.size) r (op ++ [T.root b t])
  | .name s, b, r, op, h => by
    simp only [T.ok] at h
    simp only [T.flat, List.singleton_append, rightL, aloneV, if_true, h, T.size, T.root]
    simp
  | .times lo hi t, b, r, op, h => by
    simp only [T.ok, Bool.and_eq_true] at h
    have e := right_flat n t b ([⟨4, lo, hi, [], [((b + t.size : Nat) : Int) - 1]⟩] ++ r) op h.2
    simp only [T.flat, List.append_assoc]
    rw [e]
    simp only [List.singleton_append, rightL]
    have ha : aloneV ⟨4, lo, hi, [], [((b + t.size : Nat) : Int) - 1]⟩ = true := by
      unfold aloneV
      rw [if_neg (show ¬ (4 : Int) = 1 by decide), if_neg (show ¬ ((4 : Int) = 2 ∨ (4 : Int) = 3) by decide), if_pos rfl]
      simp only [Bool.and_eq_true]
      exact ⟨⟨⟨⟨rfl, h.1.1.1⟩, h.1.1.2⟩, h.1.2⟩, rfl⟩
    have e1 := drop_app_len op [T.root b t]
    have e2 := take_app_len op [T.root b t]
    rw [show ([((b + t.size : Nat) : Int) - 1] : List Int) = [T.root b t] from rfl] at ha ⊢
    rw [ha, e1, e2]
    rw [decide_eq_true (by simp), decide_eq_true rfl]
    simp only [Bool.true_and, T.size, T.root]
    have e3 : ((b + (t.size + 1) : Nat) : Int) - 1 = ((b + t.size : Nat) : Int) := by omega
    have e4 : b + t.size + 1 = b + (t.size + 1) := by omega
    rw [e3, e4]
  | .many k ts, b, r, op, h => by
    simp only [T.ok, Bool.and_eq_true, Bool.or_eq_true, decide_eq_true_eq] at h
    have e := right_flatL n ts b ([⟨k, 0, 0, [], rootsL b ts⟩] ++ r) op h.2
    simp only [T.flat, List.append_assoc]
    rw [e]
    simp only [List.singleton_append, rightL]
    have hl := rootsL_len ts b
    have ha : aloneV ⟨k, 0, 0, [], rootsL b ts⟩ = true := by
      unfold aloneV
      rw [if_neg (by show ¬ k = 1; omega), if_pos (by show k = 2 ∨ k = 3; exact h.1.1)]
      simp only [hl]
      rw [decide_eq_true (show 1 < ts.length by omega)]; rfl
    have e1 := drop_app_len op (rootsL b ts)
    have e2 := take_app_len op (rootsL b ts)
    rw [ha, e1, e2]
    rw [decide_eq_true (by simp), decide_eq_true rfl]
    simp only [Bool.true_and, T.size, T.root]
    have e3 : ((b + (T.sizeL ts + 1) : Nat) : Int) - 1 = ((b + T.sizeL ts : Nat) : Int) := by omega
    have e4 : b + T.sizeL ts + 1 = b + (T.sizeL ts + 1) := by omega
    rw [e3, e4]
theorem right_flatL (n : Nat) : ∀ (ts : List T) (b : Nat) (r : List Pt) (op : List Int), T.okL ts = true → rightL n b (T.flatL b ts ++ r) op = rightL n (b + T.sizeL ts) r (op ++ rootsL b ts)
  | [], b, r, op, h => by simp [T.flatL, T.sizeL, rootsL]
  | t :: ts, b, r, op, h => by
    simp only [T.okL, Bool.and_eq_true] at h
    simp only [T.flatL, List.append_assoc]
    rw [right_flat n t b _ op h.1, right_flatL n ts _ r _ h.2]
    simp [T.sizeL, rootsL, T.root, Nat.add_assoc]
end
theorem right_of_ok {t : T} (h : t.ok = true) : rightV (T.flat 0 t) = true := by
  have := right_flat (T.flat 0 t).length t 0 [] [] h
  rw [List.append_nil] at this
  unfold rightV
  rw [this]
  simp [rightL]
theorem okL_at {ts : List T} (h : T.okL ts = true) : ∀ i, i < ts.length → (ts.getD i default).ok = true := by
  induction ts with
  | nil => intro i hi; exact absurd hi (Nat.not_lt_zero _)
  | cons t ts ih =>
    simp only [T.okL, Bool.and_eq_true] at h
    intro i hi
    cases i with
    | zero => exact h.1
    | succ i => have := ih h.2 i (by simpa using hi); simpa using this
/-- What has been read may be. -/
theorem kd1 {x : Sg} (hw : SgW x) (h : x.kind = 1) : SgW ⟨1, 0, 0, 0, x.name⟩ := by
  cases hw with
  | @name a n h1 h2 h3 => exact .name h1 h2 h3
  | open_ => exact absurd (show (2 : Int) = 1 from h) (by decide)
  | shut => exact absurd (show (3 : Int) = 1 from h) (by decide)
  | or_ => exact absurd (show (4 : Int) = 1 from h) (by decide)
  | times _ => exact absurd (show (5 : Int) = 1 from h) (by decide)
end Go.Proofs.YtmcchhmgchgaaaaDoor

namespace Go.Proofs.YtmcchhmgchgaaaaDoor
set_option linter.unusedSimpArgs false
set_option linter.unusedVariables false
set_option maxRecDepth 100000
set_option maxHeartbeats 1000000
open Go.RowKit

theorem ext_getD {α : Type} (d : α) {a b : List α} (hl : a.length = b.length) (h : ∀ j, j < a.length → a.getD j d = b.getD j d) : a = b := by
  apply List.ext_getElem hl
  intro i h1 h2
  have := h i h1
  rwa [List.getD_eq_getElem?_getD, List.getD_eq_getElem?_getD, List.getElem?_eq_getElem h1, List.getElem?_eq_getElem h2] at this
theorem sameInts_h (a b : List Int) (ha : a.length ≤ 1000000) (hb : b.length ≤ 1000000) : HPure Tryd.prog 56 [kidsV a, kidsV b] (boolV (decide (a = b))) := by
  refine hpure_of Tryd.func56 rfl (by kernel_rfl) _ _ _ rfl 26 rfl rfl (fun w F => ?_)
  refine srg fun N h1 => ?_
  refine sta rfl rfl rfl ?_
  refine snl h1 ?_
  refine hw_seq (fun Nh2 h2 => ?_)
  refine srg fun N h3 => ?_
  refine stm rfl rfl rfl ?_
  first
  | refine hq_ 7 (hop_len_sl (T := 44) rfl (elOf_spec el_44).1 rfl) rfl rfl pre0 rfl rfl ?_
  | refine hq_ 7 (hop_len_os (T := 44) rfl (elOf_spec el_44).1 rfl) rfl rfl pre0 rfl rfl ?_
  | refine hq_ 7 (hop_len_nil (T := 44) rfl (elOf_spec el_44).1 rfl) rfl rfl pre0 rfl rfl ?_
  refine stm rfl rfl rfl ?_
  first
  | refine hq_ 9 (hop_len_sl (T := 44) rfl (elOf_spec el_44).1 rfl) rfl rfl pre0 rfl rfl ?_
  | refine hq_ 9 (hop_len_os (T := 44) rfl (elOf_spec el_44).1 rfl) rfl rfl pre0 rfl rfl ?_
  | refine hq_ 9 (hop_len_nil (T := 44) rfl (elOf_spec el_44).1 rfl) rfl rfl pre0 rfl rfl ?_
  refine st0 (hop_neq rfl rfl) rfl rfl ?_
  refine snl h3 ?_
  refine hw_cond _ rfl (fun hc0 => ?_) (fun hc0 => ?_)
  · have hr0 := hc0; (try simp only [hcs, Int.reduceToNat] at hc0)
    refine srg fun N h4 => ?_
    refine sta rfl rfl rfl ?_
    refine snl h4 ?_
    refine hw_ret ?_
    refine hq_then_ret ?_
    refine hq_ret1 rfl (rval_tmp rfl) [] rfl pre0 ?_
    rw [decide_eq_false (fun h => hc0 (by rw [h]))]; exact .imm _
  have hr0 := hc0; (try simp only [hcs, Int.reduceToNat] at hc0)
  refine hw_skip ?_
  refine h2 _ ?_
  refine hw_seq (fun Nh5 h5 => ?_)
  refine srg fun N h6 => ?_
  refine sta rfl rfl rfl ?_
  refine snl h6 ?_
  refine hw_block ?_
  refine hw_loopc (α := Nat) (fun x c => ⟨26, [(0, .v (kidsV a)), (1, .v (kidsV b)), (5, .v (intV x))], [], c⟩) (fun x => x ≤ a.length ∧ ∀ j, j < x → a.getD j 0 = b.getD j 0) (fun x => a.length - x) (0) (by exact ⟨Nat.zero_le _, fun j hj => absurd hj (Nat.not_lt_zero _)⟩) (hsub_of rfl (Nat.le_refl _) (TmSub.cons rfl (Sb.refl _) (TmSub.cons rfl (Sb.refl _) (TmSub.cons rfl (Sb.refl _) TmSub.nil))) HpSub.nil) (fun k c hx NhL7 hL7 => ?_)
  (try dsimp only at hx hL7 ⊢)
  obtain ⟨hk, hE⟩ := hx
  refine hw_seq (fun Nh8 h8 => ?_)
  refine srg fun N h9 => ?_
  refine stm rfl rfl rfl ?_
  refine stm rfl rfl rfl ?_
  first
  | refine hq_ 13 (hop_len_sl (T := 44) rfl (elOf_spec el_44).1 rfl) rfl rfl pre0 rfl rfl ?_
  | refine hq_ 13 (hop_len_os (T := 44) rfl (elOf_spec el_44).1 rfl) rfl rfl pre0 rfl rfl ?_
  | refine hq_ 13 (hop_len_nil (T := 44) rfl (elOf_spec el_44).1 rfl) rfl rfl pre0 rfl rfl ?_
  refine st0 (hop_lss rfl rfl) rfl rfl ?_
  refine snl h9 ?_
  refine hw_cond _ rfl (fun hc1 => ?_) (fun hc1 => ?_)
  · have hr1 := hc1; (try simp only [hcs, Int.reduceToNat] at hc1)
    refine hw_skip ?_
    refine h8 _ ?_
    refine hw_seq (fun Nh10 h10 => ?_)
    refine hw_block ?_
    refine hw_seq (fun Nh11 h11 => ?_)
    refine hd_start ?_
    refine hd_q 17 (hop_move rfl) rfl rfl pre0 rfl rfl (k' := 1) rfl ?_
    refine hd_q 18 (hop_move rfl) rfl rfl pre0 rfl rfl (k' := 2) rfl ?_
    first
    | refine hd_q 19 (hop_ia_sl el_44 rfl rfl (by first | exact Nat.le_of_ble_eq_true rfl | omega | (dsimp only; omega) | (simp <;> omega)) (by first | exact Nat.le_of_ble_eq_true rfl | omega | (dsimp only; omega) | (simp <;> omega)) (by first | exact Nat.le_of_ble_eq_true rfl | omega | (dsimp only; omega) | (simp <;> omega))) rfl rfl pre0 rfl rfl (k' := 3) rfl ?_
    | refine hd_q 19 (hol_ia_os el_44 rfl rfl (by first | exact Nat.le_of_ble_eq_true rfl | omega | (dsimp only; omega) | (simp <;> omega)) (by first | exact Nat.le_of_ble_eq_true rfl | omega | (dsimp only; omega) | (simp <;> omega))) rfl rfl (pre1 rfl) rfl rfl (k' := 3) rfl ?_
    first
    | refine hd_q 20 (HOp.val (v' := intV (a.getD k 0)) (hol_load ty_3 rfl (by first | exact Nat.le_of_ble_eq_true rfl | omega | (dsimp only; omega) | (simp <;> omega)) (by first | exact Nat.le_of_ble_eq_true rfl | omega | (dsimp only; omega) | (simp <;> omega)) (fun h => (by first | rfl | cases h))) (rfl)) rfl rfl (pre1 rfl) rfl rfl (k' := 4) rfl ?_
    | refine hd_q 20 (HOp.val (v' := intV (a.getD k 0)) (hop_load_fp ty_3 rfl (by first | exact Nat.le_of_ble_eq_true rfl | omega | (dsimp only; omega) | (simp <;> omega)) (fun h => (by first | rfl | cases h))) (rfl)) rfl rfl pre0 rfl rfl (k' := 4) rfl ?_
    refine hd_q 21 (hop_move rfl) rfl rfl pre0 rfl rfl (k' := 5) rfl ?_
    refine hd_q 22 (hop_move rfl) rfl rfl pre0 rfl rfl (k' := 6) rfl ?_
    first
    | refine hd_q 23 (hop_ia_sl el_44 rfl rfl (by first | exact Nat.le_of_ble_eq_true rfl | omega | (dsimp only; omega) | (simp <;> omega)) (by first | exact Nat.le_of_ble_eq_true rfl | omega | (dsimp only; omega) | (simp <;> omega)) (by first | exact Nat.le_of_ble_eq_true rfl | omega | (dsimp only; omega) | (simp <;> omega))) rfl rfl pre0 rfl rfl (k' := 7) rfl ?_
    | refine hd_q 23 (hol_ia_os el_44 rfl rfl (by first | exact Nat.le_of_ble_eq_true rfl | omega | (dsimp only; omega) | (simp <;> omega)) (by first | exact Nat.le_of_ble_eq_true rfl | omega | (dsimp only; omega) | (simp <;> omega))) rfl rfl (pre1 rfl) rfl rfl (k' := 7) rfl ?_
    first
    | refine hd_q 24 (HOp.val (v' := intV (b.getD k 0)) (hol_load ty_3 rfl (by first | exact Nat.le_of_ble_eq_true rfl | omega | (dsimp only; omega) | (simp <;> omega)) (by first | exact Nat.le_of_ble_eq_true rfl | omega | (dsimp only; omega) | (simp <;> omega)) (fun h => (by first | rfl | cases h))) (rfl)) rfl rfl (pre1 rfl) rfl rfl (k' := 8) rfl ?_
    | refine hd_q 24 (HOp.val (v' := intV (b.getD k 0)) (hop_load_fp ty_3 rfl (by first | exact Nat.le_of_ble_eq_true rfl | omega | (dsimp only; omega) | (simp <;> omega)) (fun h => (by first | rfl | cases h))) (rfl)) rfl rfl pre0 rfl rfl (k' := 8) rfl ?_
    refine hd_q 25 (hop_neq rfl rfl) rfl rfl pre0 rfl rfl (k' := 9) rfl ?_
    refine hd_nil (by kernel_rfl) (by kernel_rfl) (c' := c + 9) rfl ?_
    refine h11 _ ?_
    refine hw_cond _ rfl (fun hc2 => ?_) (fun hc2 => ?_)
    · have hr2 := hc2; (try simp only [hcs, Int.reduceToNat] at hc2)
      refine srg fun N h12 => ?_
      refine sta rfl rfl rfl ?_
      refine snl h12 ?_
      refine hw_ret ?_
      refine hq_block_ret ?_
      refine hq_then_ret ?_
      refine hq_then_ret ?_
      refine hq_block_ret ?_
      refine hq_then_ret ?_
      refine hq_ret1 rfl (rval_tmp rfl) [] rfl pre0 ?_
      rw [decide_eq_false (fun h => hc2 (by rw [h]))]; exact .imm _
    have hr2 := hc2; (try simp only [hcs, Int.reduceToNat] at hc2)
    refine hw_skip ?_
    refine hq_block ?_
    refine h10 _ ?_
    refine hw_region ?_
    refine stm rfl rfl rfl ?_
    first
    | refine hq_ 16 (hop_addi rfl rfl rfl (by first | exact Nat.le_of_ble_eq_true rfl | omega | (dsimp only; omega) | (simp <;> omega)) (by first | exact Nat.le_of_ble_eq_true rfl | omega | (dsimp only; omega) | (simp <;> omega))) rfl rfl pre0 rfl rfl ?_
    | refine hq_ 16 (hop_add rfl rfl) rfl rfl pre0 rfl rfl ?_
    refine sta rfl rfl rfl ?_
    refine hseq_nil ?_
    exact hL7 (k + 1) _ _ (by (try dsimp only); exact ⟨by omega, fun j hj => by by_cases e : j = k; (· subst e; exact hc2); exact hE j (by omega)⟩) (by (try dsimp only); omega) (hsub_of rfl (Nat.le_refl _) (TmSub.cons rfl (Sb.refl _) (TmSub.cons rfl (Sb.refl _) (TmSub.cons rfl (Sb.refl _) TmSub.nil))) HpSub.nil)
  have hr1 := hc1; (try simp only [hcs, Int.reduceToNat] at hc1)
  refine hw_exit ?_
  refine hq_then_exit ?_
  refine hq_then_exit ?_
  refine hq_block_here ?_
  refine h5 _ ?_
  refine srg fun N h13 => ?_
  refine sta rfl rfl rfl ?_
  refine snl h13 ?_
  refine hw_ret ?_
  refine hq_ret1 rfl (rval_tmp rfl) [] rfl pre0 ?_
  rw [decide_eq_true (ext_getD 0 (by omega) (fun j hj => hE j (by omega)))]; exact .imm _
theorem pt_ext {x y : Pt} (h0 : x.kind = y.kind) (h1 : x.low = y.low) (h2 : x.high = y.high) (h3 : x.name = y.name) (h4 : x.kids = y.kids) : x = y := by
  cases x; cases y; simp only at *; subst h0; subst h1; subst h2; subst h3; subst h4; rfl
/-- Parts that aren't too long. -/
@[reducible] def PtB (l : List Pt) : Prop := l.length ≤ 100000 ∧ ∀ i, i < l.length → (l.getD i default).kids.length ≤ 100000 ∧ (l.getD i default).name.length ≤ 1000000
theorem samePts_h (a b : List Pt) (ha : PtB a) (hb : PtB b) : HPure Tryd.prog 31 [ptsV a, ptsV b] (boolV (decide (a = b))) := by
  have hla := ha.1
  have hlb := hb.1
  refine hpure_of Tryd.func31 rfl (by kernel_rfl) _ _ _ rfl 81 rfl rfl (fun w F => ?_)
  refine srg fun N h1 => ?_
  refine sta rfl rfl rfl ?_
  refine snl h1 ?_
  refine hw_seq (fun Nh2 h2 => ?_)
  refine srg fun N h3 => ?_
  refine stm rfl rfl rfl ?_
  first
  | refine hq_ 7 (hop_len_sl (T := 41) rfl (elOf_spec el_41).1 rfl) rfl rfl pre0 rfl rfl ?_
  | refine hq_ 7 (hop_len_os (T := 41) rfl (elOf_spec el_41).1 rfl) rfl rfl pre0 rfl rfl ?_
  | refine hq_ 7 (hop_len_nil (T := 41) rfl (elOf_spec el_41).1 rfl) rfl rfl pre0 rfl rfl ?_
  refine stm rfl rfl rfl ?_
  first
  | refine hq_ 9 (hop_len_sl (T := 41) rfl (elOf_spec el_41).1 rfl) rfl rfl pre0 rfl rfl ?_
  | refine hq_ 9 (hop_len_os (T := 41) rfl (elOf_spec el_41).1 rfl) rfl rfl pre0 rfl rfl ?_
  | refine hq_ 9 (hop_len_nil (T := 41) rfl (elOf_spec el_41).1 rfl) rfl rfl pre0 rfl rfl ?_
  refine st0 (hop_neq rfl rfl) rfl rfl ?_
  refine snl h3 ?_
  refine hw_cond _ rfl (fun hc0 => ?_) (fun hc0 => ?_)
  · have hr0 := hc0; (try simp only [hcs, Int.reduceToNat] at hc0)
    refine srg fun N h4 => ?_
    refine sta rfl rfl rfl ?_
    refine snl h4 ?_
    refine hw_ret ?_
    refine hq_then_ret ?_
    refine hq_ret1 rfl (rval_tmp rfl) [] rfl pre0 ?_
    rw [decide_eq_false (fun h => hc0 (by rw [h]))]; exact .imm _
  have hr0 := hc0; (try simp only [hcs, Int.reduceToNat] at hc0)
  refine hw_skip ?_
  refine h2 _ ?_
  refine hw_seq (fun Nh5 h5 => ?_)
  refine srg fun N h6 => ?_
  refine sta rfl rfl rfl ?_
  refine snl h6 ?_
  refine hw_block ?_
  refine hw_loopc (α := Nat) (fun x c => ⟨81, [(0, .v (ptsV a)), (1, .v (ptsV b)), (5, .v (intV x))], [], c⟩) (fun x => x ≤ a.length ∧ ∀ j, j < x → a.getD j default = b.getD j default) (fun x => a.length - x) (0) (by exact ⟨Nat.zero_le _, fun j hj => absurd hj (Nat.not_lt_zero _)⟩) (hsub_of rfl (Nat.le_refl _) (TmSub.cons rfl (Sb.refl _) (TmSub.cons rfl (Sb.refl _) (TmSub.cons rfl (Sb.refl _) TmSub.nil))) HpSub.nil) (fun k c hx NhL7 hL7 => ?_)
  (try dsimp only at hx hL7 ⊢)
  obtain ⟨hk, hE⟩ := hx
  refine hw_seq (fun Nh8 h8 => ?_)
  refine srg fun N h9 => ?_
  refine stm rfl rfl rfl ?_
  refine stm rfl rfl rfl ?_
  first
  | refine hq_ 13 (hop_len_sl (T := 41) rfl (elOf_spec el_41).1 rfl) rfl rfl pre0 rfl rfl ?_
  | refine hq_ 13 (hop_len_os (T := 41) rfl (elOf_spec el_41).1 rfl) rfl rfl pre0 rfl rfl ?_
  | refine hq_ 13 (hop_len_nil (T := 41) rfl (elOf_spec el_41).1 rfl) rfl rfl pre0 rfl rfl ?_
  refine st0 (hop_lss rfl rfl) rfl rfl ?_
  refine snl h9 ?_
  refine hw_cond _ rfl (fun hc1 => ?_) (fun hc1 => ?_)
  · have hr1 := hc1; (try simp only [hcs, Int.reduceToNat] at hc1)
    have hka := ha.2 k (by omega); have hkb := hb.2 k (by omega)
    refine hw_skip ?_
    refine h8 _ ?_
    refine hw_seq (fun Nh10 h10 => ?_)
    refine hw_block ?_
    refine hw_seq (fun Nh11 h11 => ?_)
    refine hd_start ?_
    refine hd_q 17 (hop_move rfl) rfl rfl pre0 rfl rfl (k' := 1) rfl ?_
    refine hd_q 18 (hop_move rfl) rfl rfl pre0 rfl rfl (k' := 2) rfl ?_
    first
    | refine hd_q 19 (hop_ia_sl el_41 rfl rfl (by first | exact Nat.le_of_ble_eq_true rfl | omega | (dsimp only; omega) | (simp <;> omega)) (by first | exact Nat.le_of_ble_eq_true rfl | omega | (dsimp only; omega) | (simp <;> omega)) (by first | exact Nat.le_of_ble_eq_true rfl | omega | (dsimp only; omega) | (simp <;> omega))) rfl rfl pre0 rfl rfl (k' := 3) rfl ?_
    | refine hd_q 19 (hol_ia_os el_41 rfl rfl (by first | exact Nat.le_of_ble_eq_true rfl | omega | (dsimp only; omega) | (simp <;> omega)) (by first | exact Nat.le_of_ble_eq_true rfl | omega | (dsimp only; omega) | (simp <;> omega))) rfl rfl (pre1 rfl) rfl rfl (k' := 3) rfl ?_
    first
    | refine hd_q 20 (hop_fa fd_46_0 rfl) rfl rfl pre0 rfl rfl (k' := 4) rfl ?_
    | refine hd_q 20 (hop_fa_fp fd_46_0 rfl (by first | exact Nat.le_of_ble_eq_true rfl | omega | (dsimp only; omega) | (simp <;> omega))) rfl rfl pre0 rfl rfl (k' := 4) rfl ?_
    first
    | refine hd_q 21 (HOp.val (v' := intV (a.getD k default).kind) (hol_load ty_3 rfl (by first | exact Nat.le_of_ble_eq_true rfl | omega | (dsimp only; omega) | (simp <;> omega)) (by first | exact Nat.le_of_ble_eq_true rfl | omega | (dsimp only; omega) | (simp <;> omega)) (fun h => (by first | rfl | cases h))) (rfl)) rfl rfl (pre1 rfl) rfl rfl (k' := 5) rfl ?_
    | refine hd_q 21 (HOp.val (v' := intV (a.getD k default).kind) (hop_load_fp ty_3 rfl (by first | exact Nat.le_of_ble_eq_true rfl | omega | (dsimp only; omega) | (simp <;> omega)) (fun h => (by first | rfl | cases h))) (rfl)) rfl rfl pre0 rfl rfl (k' := 5) rfl ?_
    refine hd_q 22 (hop_move rfl) rfl rfl pre0 rfl rfl (k' := 6) rfl ?_
    refine hd_q 23 (hop_move rfl) rfl rfl pre0 rfl rfl (k' := 7) rfl ?_
    first
    | refine hd_q 24 (hop_ia_sl el_41 rfl rfl (by first | exact Nat.le_of_ble_eq_true rfl | omega | (dsimp only; omega) | (simp <;> omega)) (by first | exact Nat.le_of_ble_eq_true rfl | omega | (dsimp only; omega) | (simp <;> omega)) (by first | exact Nat.le_of_ble_eq_true rfl | omega | (dsimp only; omega) | (simp <;> omega))) rfl rfl pre0 rfl rfl (k' := 8) rfl ?_
    | refine hd_q 24 (hol_ia_os el_41 rfl rfl (by first | exact Nat.le_of_ble_eq_true rfl | omega | (dsimp only; omega) | (simp <;> omega)) (by first | exact Nat.le_of_ble_eq_true rfl | omega | (dsimp only; omega) | (simp <;> omega))) rfl rfl (pre1 rfl) rfl rfl (k' := 8) rfl ?_
    first
    | refine hd_q 25 (hop_fa fd_46_0 rfl) rfl rfl pre0 rfl rfl (k' := 9) rfl ?_
    | refine hd_q 25 (hop_fa_fp fd_46_0 rfl (by first | exact Nat.le_of_ble_eq_true rfl | omega | (dsimp only; omega) | (simp <;> omega))) rfl rfl pre0 rfl rfl (k' := 9) rfl ?_
    first
    | refine hd_q 26 (HOp.val (v' := intV (b.getD k default).kind) (hol_load ty_3 rfl (by first | exact Nat.le_of_ble_eq_true rfl | omega | (dsimp only; omega) | (simp <;> omega)) (by first | exact Nat.le_of_ble_eq_true rfl | omega | (dsimp only; omega) | (simp <;> omega)) (fun h => (by first | rfl | cases h))) (rfl)) rfl rfl (pre1 rfl) rfl rfl (k' := 10) rfl ?_
    | refine hd_q 26 (HOp.val (v' := intV (b.getD k default).kind) (hop_load_fp ty_3 rfl (by first | exact Nat.le_of_ble_eq_true rfl | omega | (dsimp only; omega) | (simp <;> omega)) (fun h => (by first | rfl | cases h))) (rfl)) rfl rfl pre0 rfl rfl (k' := 10) rfl ?_
    refine hd_q 27 (hop_neq rfl rfl) rfl rfl pre0 rfl rfl (k' := 11) rfl ?_
    refine hd_q 28 (hop_move rfl) rfl rfl pre0 rfl rfl (k' := 12) rfl ?_
    refine hd_g 29 11 28 false _ (fun hb => hop_move rfl) rfl rfl rfl rfl pre0 rfl rfl rfl (k' := 13) rfl ?_
    refine hd_g 30 11 28 false _ (fun hb => hop_move rfl) rfl rfl rfl rfl pre0 rfl rfl rfl (k' := 14) rfl ?_
    first
    | refine hd_g 31 11 28 false _ (fun hb => hop_ia_sl el_41 rfl rfl (by first | exact Nat.le_of_ble_eq_true rfl | (simp at hb; first | omega | (dsimp only; omega) | (simp <;> omega))) (by first | exact Nat.le_of_ble_eq_true rfl | (simp at hb; first | omega | (dsimp only; omega) | (simp <;> omega))) (by first | exact Nat.le_of_ble_eq_true rfl | (simp at hb; first | omega | (dsimp only; omega) | (simp <;> omega)))) rfl rfl rfl rfl pre0 rfl rfl rfl (k' := 15) rfl ?_
    | refine hd_g 31 11 28 false _ (fun hb => hol_ia_os el_41 rfl rfl (by first | exact Nat.le_of_ble_eq_true rfl | (simp at hb; first | omega | (dsimp only; omega) | (simp <;> omega))) (by first | exact Nat.le_of_ble_eq_true rfl | (simp at hb; first | omega | (dsimp only; omega) | (simp <;> omega)))) rfl rfl rfl rfl (pre1 rfl) rfl rfl rfl (k' := 15) rfl ?_
    first
    | refine hd_g 32 11 28 false _ (fun hb => hop_fa fd_46_1 rfl) rfl rfl rfl rfl pre0 rfl rfl rfl (k' := 16) rfl ?_
    | refine hd_g 32 11 28 false _ (fun hb => hop_fa_fp fd_46_1 rfl (by first | exact Nat.le_of_ble_eq_true rfl | (simp at hb; first | omega | (dsimp only; omega) | (simp <;> omega)))) rfl rfl rfl rfl pre0 rfl rfl rfl (k' := 16) rfl ?_
    first
    | refine hd_g 33 11 28 false _ (fun hb => HOp.val (v' := intV (a.getD k default).low) (hol_load ty_3 rfl (by first | exact Nat.le_of_ble_eq_true rfl | (simp at hb; first | omega | (dsimp only; omega) | (simp <;> omega))) (by first | exact Nat.le_of_ble_eq_true rfl | (simp at hb; first | omega | (dsimp only; omega) | (simp <;> omega))) (fun h => (by first | rfl | cases h))) (rfl)) rfl rfl rfl rfl (pre1 rfl) rfl rfl rfl (k' := 17) rfl ?_
    | refine hd_g 33 11 28 false _ (fun hb => HOp.val (v' := intV (a.getD k default).low) (hop_load_fp ty_3 rfl (by first | exact Nat.le_of_ble_eq_true rfl | (simp at hb; first | omega | (dsimp only; omega) | (simp <;> omega))) (fun h => (by first | rfl | cases h))) (rfl)) rfl rfl rfl rfl pre0 rfl rfl rfl (k' := 17) rfl ?_
    refine hd_g 34 11 28 false _ (fun hb => hop_move rfl) rfl rfl rfl rfl pre0 rfl rfl rfl (k' := 18) rfl ?_
    refine hd_g 35 11 28 false _ (fun hb => hop_move rfl) rfl rfl rfl rfl pre0 rfl rfl rfl (k' := 19) rfl ?_
    first
    | refine hd_g 36 11 28 false _ (fun hb => hop_ia_sl el_41 rfl rfl (by first | exact Nat.le_of_ble_eq_true rfl | (simp at hb; first | omega | (dsimp only; omega) | (simp <;> omega))) (by first | exact Nat.le_of_ble_eq_true rfl | (simp at hb; first | omega | (dsimp only; omega) | (simp <;> omega))) (by first | exact Nat.le_of_ble_eq_true rfl | (simp at hb; first | omega | (dsimp only; omega) | (simp <;> omega)))) rfl rfl rfl rfl pre0 rfl rfl rfl (k' := 20) rfl ?_
    | refine hd_g 36 11 28 false _ (fun hb => hol_ia_os el_41 rfl rfl (by first | exact Nat.le_of_ble_eq_true rfl | (simp at hb; first | omega | (dsimp only; omega) | (simp <;> omega))) (by first | exact Nat.le_of_ble_eq_true rfl | (simp at hb; first | omega | (dsimp only; omega) | (simp <;> omega)))) rfl rfl rfl rfl (pre1 rfl) rfl rfl rfl (k' := 20) rfl ?_
    first
    | refine hd_g 37 11 28 false _ (fun hb => hop_fa fd_46_1 rfl) rfl rfl rfl rfl pre0 rfl rfl rfl (k' := 21) rfl ?_
    | refine hd_g 37 11 28 false _ (fun hb => hop_fa_fp fd_46_1 rfl (by first | exact Nat.le_of_ble_eq_true rfl | (simp at hb; first | omega | (dsimp only; omega) | (simp <;> omega)))) rfl rfl rfl rfl pre0 rfl rfl rfl (k' := 21) rfl ?_
    first
    | refine hd_g 38 11 28 false _ (fun hb => HOp.val (v' := intV (b.getD k default).low) (hol_load ty_3 rfl (by first | exact Nat.le_of_ble_eq_true rfl | (simp at hb; first | omega | (dsimp only; omega) | (simp <;> omega))) (by first | exact Nat.le_of_ble_eq_true rfl | (simp at hb; first | omega | (dsimp only; omega) | (simp <;> omega))) (fun h => (by first | rfl | cases h))) (rfl)) rfl rfl rfl rfl (pre1 rfl) rfl rfl rfl (k' := 22) rfl ?_
    | refine hd_g 38 11 28 false _ (fun hb => HOp.val (v' := intV (b.getD k default).low) (hop_load_fp ty_3 rfl (by first | exact Nat.le_of_ble_eq_true rfl | (simp at hb; first | omega | (dsimp only; omega) | (simp <;> omega))) (fun h => (by first | rfl | cases h))) (rfl)) rfl rfl rfl rfl pre0 rfl rfl rfl (k' := 22) rfl ?_
    refine hd_g 39 11 28 false _ (fun hb => hop_neq rfl rfl) rfl rfl rfl rfl pre0 rfl rfl rfl (k' := 23) rfl ?_
    first
    | refine hd_p 40 (hstep_and _ _ rfl rfl rfl) rfl rfl rfl (k' := 24) rfl ?_
    | refine hd_p 40 (hstep_or _ _ rfl rfl rfl) rfl rfl rfl (k' := 24) rfl ?_
    | refine hd_p 40 (hstep_pick _ _ _ _ rfl rfl rfl (fun _ => .refl _) (fun _ => .refl _)) rfl rfl rfl (k' := 24) rfl ?_
    refine hd_q 41 (hop_move rfl) rfl rfl pre0 rfl rfl (k' := 25) rfl ?_
    refine hd_g 42 24 41 false _ (fun hb => hop_move rfl) rfl rfl rfl rfl pre0 rfl rfl rfl (k' := 26) rfl ?_
    refine hd_g 43 24 41 false _ (fun hb => hop_move rfl) rfl rfl rfl rfl pre0 rfl rfl rfl (k' := 27) rfl ?_
    first
    | refine hd_g 44 24 41 false _ (fun hb => hop_ia_sl el_41 rfl rfl (by first | exact Nat.le_of_ble_eq_true rfl | (simp at hb; first | omega | (dsimp only; omega) | (simp <;> omega))) (by first | exact Nat.le_of_ble_eq_true rfl | (simp at hb; first | omega | (dsimp only; omega) | (simp <;> omega))) (by first | exact Nat.le_of_ble_eq_true rfl | (simp at hb; first | omega | (dsimp only; omega) | (simp <;> omega)))) rfl rfl rfl rfl pre0 rfl rfl rfl (k' := 28) rfl ?_
    | refine hd_g 44 24 41 false _ (fun hb => hol_ia_os el_41 rfl rfl (by first | exact Nat.le_of_ble_eq_true rfl | (simp at hb; first | omega | (dsimp only; omega) | (simp <;> omega))) (by first | exact Nat.le_of_ble_eq_true rfl | (simp at hb; first | omega | (dsimp only; omega) | (simp <;> omega)))) rfl rfl rfl rfl (pre1 rfl) rfl rfl rfl (k' := 28) rfl ?_
    first
    | refine hd_g 45 24 41 false _ (fun hb => hop_fa fd_46_2 rfl) rfl rfl rfl rfl pre0 rfl rfl rfl (k' := 29) rfl ?_
    | refine hd_g 45 24 41 false _ (fun hb => hop_fa_fp fd_46_2 rfl (by first | exact Nat.le_of_ble_eq_true rfl | (simp at hb; first | omega | (dsimp only; omega) | (simp <;> omega)))) rfl rfl rfl rfl pre0 rfl rfl rfl (k' := 29) rfl ?_
    first
    | refine hd_g 46 24 41 false _ (fun hb => HOp.val (v' := intV (a.getD k default).high) (hol_load ty_3 rfl (by first | exact Nat.le_of_ble_eq_true rfl | (simp at hb; first | omega | (dsimp only; omega) | (simp <;> omega))) (by first | exact Nat.le_of_ble_eq_true rfl | (simp at hb; first | omega | (dsimp only; omega) | (simp <;> omega))) (fun h => (by first | rfl | cases h))) (rfl)) rfl rfl rfl rfl (pre1 rfl) rfl rfl rfl (k' := 30) rfl ?_
    | refine hd_g 46 24 41 false _ (fun hb => HOp.val (v' := intV (a.getD k default).high) (hop_load_fp ty_3 rfl (by first | exact Nat.le_of_ble_eq_true rfl | (simp at hb; first | omega | (dsimp only; omega) | (simp <;> omega))) (fun h => (by first | rfl | cases h))) (rfl)) rfl rfl rfl rfl pre0 rfl rfl rfl (k' := 30) rfl ?_
    refine hd_g 47 24 41 false _ (fun hb => hop_move rfl) rfl rfl rfl rfl pre0 rfl rfl rfl (k' := 31) rfl ?_
    refine hd_g 48 24 41 false _ (fun hb => hop_move rfl) rfl rfl rfl rfl pre0 rfl rfl rfl (k' := 32) rfl ?_
    first
    | refine hd_g 49 24 41 false _ (fun hb => hop_ia_sl el_41 rfl rfl (by first | exact Nat.le_of_ble_eq_true rfl | (simp at hb; first | omega | (dsimp only; omega) | (simp <;> omega))) (by first | exact Nat.le_of_ble_eq_true rfl | (simp at hb; first | omega | (dsimp only; omega) | (simp <;> omega))) (by first | exact Nat.le_of_ble_eq_true rfl | (simp at hb; first | omega | (dsimp only; omega) | (simp <;> omega)))) rfl rfl rfl rfl pre0 rfl rfl rfl (k' := 33) rfl ?_
    | refine hd_g 49 24 41 false _ (fun hb => hol_ia_os el_41 rfl rfl (by first | exact Nat.le_of_ble_eq_true rfl | (simp at hb; first | omega | (dsimp only; omega) | (simp <;> omega))) (by first | exact Nat.le_of_ble_eq_true rfl | (simp at hb; first | omega | (dsimp only; omega) | (simp <;> omega)))) rfl rfl rfl rfl (pre1 rfl) rfl rfl rfl (k' := 33) rfl ?_
    first
    | refine hd_g 50 24 41 false _ (fun hb => hop_fa fd_46_2 rfl) rfl rfl rfl rfl pre0 rfl rfl rfl (k' := 34) rfl ?_
    | refine hd_g 50 24 41 false _ (fun hb => hop_fa_fp fd_46_2 rfl (by first | exact Nat.le_of_ble_eq_true rfl | (simp at hb; first | omega | (dsimp only; omega) | (simp <;> omega)))) rfl rfl rfl rfl pre0 rfl rfl rfl (k' := 34) rfl ?_
    first
    | refine hd_g 51 24 41 false _ (fun hb => HOp.val (v' := intV (b.getD k default).high) (hol_load ty_3 rfl (by first | exact Nat.le_of_ble_eq_true rfl | (simp at hb; first | omega | (dsimp only; omega) | (simp <;> omega))) (by first | exact Nat.le_of_ble_eq_true rfl | (simp at hb; first | omega | (dsimp only; omega) | (simp <;> omega))) (fun h => (by first | rfl | cases h))) (rfl)) rfl rfl rfl rfl (pre1 rfl) rfl rfl rfl (k' := 35) rfl ?_
    | refine hd_g 51 24 41 false _ (fun hb => HOp.val (v' := intV (b.getD k default).high) (hop_load_fp ty_3 rfl (by first | exact Nat.le_of_ble_eq_true rfl | (simp at hb; first | omega | (dsimp only; omega) | (simp <;> omega))) (fun h => (by first | rfl | cases h))) (rfl)) rfl rfl rfl rfl pre0 rfl rfl rfl (k' := 35) rfl ?_
    refine hd_g 52 24 41 false _ (fun hb => hop_neq rfl rfl) rfl rfl rfl rfl pre0 rfl rfl rfl (k' := 36) rfl ?_
    first
    | refine hd_p 53 (hstep_and _ _ rfl rfl rfl) rfl rfl rfl (k' := 37) rfl ?_
    | refine hd_p 53 (hstep_or _ _ rfl rfl rfl) rfl rfl rfl (k' := 37) rfl ?_
    | refine hd_p 53 (hstep_pick _ _ _ _ rfl rfl rfl (fun _ => .refl _) (fun _ => .refl _)) rfl rfl rfl (k' := 37) rfl ?_
    refine hd_q 54 (hop_move rfl) rfl rfl pre0 rfl rfl (k' := 38) rfl ?_
    refine hd_g 55 37 54 false _ (fun hb => hop_move rfl) rfl rfl rfl rfl pre0 rfl rfl rfl (k' := 39) rfl ?_
    refine hd_g 56 37 54 false _ (fun hb => hop_move rfl) rfl rfl rfl rfl pre0 rfl rfl rfl (k' := 40) rfl ?_
    first
    | refine hd_g 57 37 54 false _ (fun hb => hop_ia_sl el_41 rfl rfl (by first | exact Nat.le_of_ble_eq_true rfl | (simp at hb; first | omega | (dsimp only; omega) | (simp <;> omega))) (by first | exact Nat.le_of_ble_eq_true rfl | (simp at hb; first | omega | (dsimp only; omega) | (simp <;> omega))) (by first | exact Nat.le_of_ble_eq_true rfl | (simp at hb; first | omega | (dsimp only; omega) | (simp <;> omega)))) rfl rfl rfl rfl pre0 rfl rfl rfl (k' := 41) rfl ?_
    | refine hd_g 57 37 54 false _ (fun hb => hol_ia_os el_41 rfl rfl (by first | exact Nat.le_of_ble_eq_true rfl | (simp at hb; first | omega | (dsimp only; omega) | (simp <;> omega))) (by first | exact Nat.le_of_ble_eq_true rfl | (simp at hb; first | omega | (dsimp only; omega) | (simp <;> omega)))) rfl rfl rfl rfl (pre1 rfl) rfl rfl rfl (k' := 41) rfl ?_
    first
    | refine hd_g 58 37 54 false _ (fun hb => hop_fa fd_46_3 rfl) rfl rfl rfl rfl pre0 rfl rfl rfl (k' := 42) rfl ?_
    | refine hd_g 58 37 54 false _ (fun hb => hop_fa_fp fd_46_3 rfl (by first | exact Nat.le_of_ble_eq_true rfl | (simp at hb; first | omega | (dsimp only; omega) | (simp <;> omega)))) rfl rfl rfl rfl pre0 rfl rfl rfl (k' := 42) rfl ?_
    first
    | refine hd_g 59 37 54 false _ (fun hb => HOp.val (v' := strV (a.getD k default).name) (hol_load ty_9 rfl (by first | exact Nat.le_of_ble_eq_true rfl | (simp at hb; first | omega | (dsimp only; omega) | (simp <;> omega))) (by first | exact Nat.le_of_ble_eq_true rfl | (simp at hb; first | omega | (dsimp only; omega) | (simp <;> omega))) (fun h => (by first | rfl | cases h))) (rfl)) rfl rfl rfl rfl (pre1 rfl) rfl rfl rfl (k' := 43) rfl ?_
    | refine hd_g 59 37 54 false _ (fun hb => HOp.val (v' := strV (a.getD k default).name) (hop_load_fp ty_9 rfl (by first | exact Nat.le_of_ble_eq_true rfl | (simp at hb; first | omega | (dsimp only; omega) | (simp <;> omega))) (fun h => (by first | rfl | cases h))) (rfl)) rfl rfl rfl rfl pre0 rfl rfl rfl (k' := 43) rfl ?_
    refine hd_g 60 37 54 false _ (fun hb => hop_move rfl) rfl rfl rfl rfl pre0 rfl rfl rfl (k' := 44) rfl ?_
    refine hd_g 61 37 54 false _ (fun hb => hop_move rfl) rfl rfl rfl rfl pre0 rfl rfl rfl (k' := 45) rfl ?_
    first
    | refine hd_g 62 37 54 false _ (fun hb => hop_ia_sl el_41 rfl rfl (by first | exact Nat.le_of_ble_eq_true rfl | (simp at hb; first | omega | (dsimp only; omega) | (simp <;> omega))) (by first | exact Nat.le_of_ble_eq_true rfl | (simp at hb; first | omega | (dsimp only; omega) | (simp <;> omega))) (by first | exact Nat.le_of_ble_eq_true rfl | (simp at hb; first | omega | (dsimp only; omega) | (simp <;> omega)))) rfl rfl rfl rfl pre0 rfl rfl rfl (k' := 46) rfl ?_
    | refine hd_g 62 37 54 false _ (fun hb => hol_ia_os el_41 rfl rfl (by first | exact Nat.le_of_ble_eq_true rfl | (simp at hb; first | omega | (dsimp only; omega) | (simp <;> omega))) (by first | exact Nat.le_of_ble_eq_true rfl | (simp at hb; first | omega | (dsimp only; omega) | (simp <;> omega)))) rfl rfl rfl rfl (pre1 rfl) rfl rfl rfl (k' := 46) rfl ?_
    first
    | refine hd_g 63 37 54 false _ (fun hb => hop_fa fd_46_3 rfl) rfl rfl rfl rfl pre0 rfl rfl rfl (k' := 47) rfl ?_
    | refine hd_g 63 37 54 false _ (fun hb => hop_fa_fp fd_46_3 rfl (by first | exact Nat.le_of_ble_eq_true rfl | (simp at hb; first | omega | (dsimp only; omega) | (simp <;> omega)))) rfl rfl rfl rfl pre0 rfl rfl rfl (k' := 47) rfl ?_
    first
    | refine hd_g 64 37 54 false _ (fun hb => HOp.val (v' := strV (b.getD k default).name) (hol_load ty_9 rfl (by first | exact Nat.le_of_ble_eq_true rfl | (simp at hb; first | omega | (dsimp only; omega) | (simp <;> omega))) (by first | exact Nat.le_of_ble_eq_true rfl | (simp at hb; first | omega | (dsimp only; omega) | (simp <;> omega))) (fun h => (by first | rfl | cases h))) (rfl)) rfl rfl rfl rfl (pre1 rfl) rfl rfl rfl (k' := 48) rfl ?_
    | refine hd_g 64 37 54 false _ (fun hb => HOp.val (v' := strV (b.getD k default).name) (hop_load_fp ty_9 rfl (by first | exact Nat.le_of_ble_eq_true rfl | (simp at hb; first | omega | (dsimp only; omega) | (simp <;> omega))) (fun h => (by first | rfl | cases h))) (rfl)) rfl rfl rfl rfl pre0 rfl rfl rfl (k' := 48) rfl ?_
    refine hd_g 65 37 54 false _ (fun hb => hop_sne_l rfl rfl) rfl rfl rfl rfl pre0 rfl rfl rfl (k' := 49) rfl ?_
    first
    | refine hd_p 66 (hstep_and _ _ rfl rfl rfl) rfl rfl rfl (k' := 50) rfl ?_
    | refine hd_p 66 (hstep_or _ _ rfl rfl rfl) rfl rfl rfl (k' := 50) rfl ?_
    | refine hd_p 66 (hstep_pick _ _ _ _ rfl rfl rfl (fun _ => .refl _) (fun _ => .refl _)) rfl rfl rfl (k' := 50) rfl ?_
    refine hd_q 67 (hop_move rfl) rfl rfl pre0 rfl rfl (k' := 51) rfl ?_
    refine hd_g 68 50 67 false _ (fun hb => hop_move rfl) rfl rfl rfl rfl pre0 rfl rfl rfl (k' := 52) rfl ?_
    refine hd_g 69 50 67 false _ (fun hb => hop_move rfl) rfl rfl rfl rfl pre0 rfl rfl rfl (k' := 53) rfl ?_
    first
    | refine hd_g 70 50 67 false _ (fun hb => hop_ia_sl el_41 rfl rfl (by first | exact Nat.le_of_ble_eq_true rfl | (simp at hb; first | omega | (dsimp only; omega) | (simp <;> omega))) (by first | exact Nat.le_of_ble_eq_true rfl | (simp at hb; first | omega | (dsimp only; omega) | (simp <;> omega))) (by first | exact Nat.le_of_ble_eq_true rfl | (simp at hb; first | omega | (dsimp only; omega) | (simp <;> omega)))) rfl rfl rfl rfl pre0 rfl rfl rfl (k' := 54) rfl ?_
    | refine hd_g 70 50 67 false _ (fun hb => hol_ia_os el_41 rfl rfl (by first | exact Nat.le_of_ble_eq_true rfl | (simp at hb; first | omega | (dsimp only; omega) | (simp <;> omega))) (by first | exact Nat.le_of_ble_eq_true rfl | (simp at hb; first | omega | (dsimp only; omega) | (simp <;> omega)))) rfl rfl rfl rfl (pre1 rfl) rfl rfl rfl (k' := 54) rfl ?_
    first
    | refine hd_g 71 50 67 false _ (fun hb => hop_fa fd_46_4 rfl) rfl rfl rfl rfl pre0 rfl rfl rfl (k' := 55) rfl ?_
    | refine hd_g 71 50 67 false _ (fun hb => hop_fa_fp fd_46_4 rfl (by first | exact Nat.le_of_ble_eq_true rfl | (simp at hb; first | omega | (dsimp only; omega) | (simp <;> omega)))) rfl rfl rfl rfl pre0 rfl rfl rfl (k' := 55) rfl ?_
    first
    | refine hd_g 72 50 67 false _ (fun hb => HOp.val (v' := kidsV (a.getD k default).kids) (hol_load ty_44 rfl (by first | exact Nat.le_of_ble_eq_true rfl | (simp at hb; first | omega | (dsimp only; omega) | (simp <;> omega))) (by first | exact Nat.le_of_ble_eq_true rfl | (simp at hb; first | omega | (dsimp only; omega) | (simp <;> omega))) (fun h => (by first | rfl | cases h))) (rfl)) rfl rfl rfl rfl (pre1 rfl) rfl rfl rfl (k' := 56) rfl ?_
    | refine hd_g 72 50 67 false _ (fun hb => HOp.val (v' := kidsV (a.getD k default).kids) (hop_load_fp ty_44 rfl (by first | exact Nat.le_of_ble_eq_true rfl | (simp at hb; first | omega | (dsimp only; omega) | (simp <;> omega))) (fun h => (by first | rfl | cases h))) (rfl)) rfl rfl rfl rfl pre0 rfl rfl rfl (k' := 56) rfl ?_
    refine hd_g 73 50 67 false _ (fun hb => hop_move rfl) rfl rfl rfl rfl pre0 rfl rfl rfl (k' := 57) rfl ?_
    refine hd_g 74 50 67 false _ (fun hb => hop_move rfl) rfl rfl rfl rfl pre0 rfl rfl rfl (k' := 58) rfl ?_
    first
    | refine hd_g 75 50 67 false _ (fun hb => hop_ia_sl el_41 rfl rfl (by first | exact Nat.le_of_ble_eq_true rfl | (simp at hb; first | omega | (dsimp only; omega) | (simp <;> omega))) (by first | exact Nat.le_of_ble_eq_true rfl | (simp at hb; first | omega | (dsimp only; omega) | (simp <;> omega))) (by first | exact Nat.le_of_ble_eq_true rfl | (simp at hb; first | omega | (dsimp only; omega) | (simp <;> omega)))) rfl rfl rfl rfl pre0 rfl rfl rfl (k' := 59) rfl ?_
    | refine hd_g 75 50 67 false _ (fun hb => hol_ia_os el_41 rfl rfl (by first | exact Nat.le_of_ble_eq_true rfl | (simp at hb; first | omega | (dsimp only; omega) | (simp <;> omega))) (by first | exact Nat.le_of_ble_eq_true rfl | (simp at hb; first | omega | (dsimp only; omega) | (simp <;> omega)))) rfl rfl rfl rfl (pre1 rfl) rfl rfl rfl (k' := 59) rfl ?_
    first
    | refine hd_g 76 50 67 false _ (fun hb => hop_fa fd_46_4 rfl) rfl rfl rfl rfl pre0 rfl rfl rfl (k' := 60) rfl ?_
    | refine hd_g 76 50 67 false _ (fun hb => hop_fa_fp fd_46_4 rfl (by first | exact Nat.le_of_ble_eq_true rfl | (simp at hb; first | omega | (dsimp only; omega) | (simp <;> omega)))) rfl rfl rfl rfl pre0 rfl rfl rfl (k' := 60) rfl ?_
    first
    | refine hd_g 77 50 67 false _ (fun hb => HOp.val (v' := kidsV (b.getD k default).kids) (hol_load ty_44 rfl (by first | exact Nat.le_of_ble_eq_true rfl | (simp at hb; first | omega | (dsimp only; omega) | (simp <;> omega))) (by first | exact Nat.le_of_ble_eq_true rfl | (simp at hb; first | omega | (dsimp only; omega) | (simp <;> omega))) (fun h => (by first | rfl | cases h))) (rfl)) rfl rfl rfl rfl (pre1 rfl) rfl rfl rfl (k' := 61) rfl ?_
    | refine hd_g 77 50 67 false _ (fun hb => HOp.val (v' := kidsV (b.getD k default).kids) (hop_load_fp ty_44 rfl (by first | exact Nat.le_of_ble_eq_true rfl | (simp at hb; first | omega | (dsimp only; omega) | (simp <;> omega))) (fun h => (by first | rfl | cases h))) (rfl)) rfl rfl rfl rfl pre0 rfl rfl rfl (k' := 61) rfl ?_
    refine hd_g 78 50 67 false _ (fun hb => hop_call0 (xs := [_, _]) (sameInts_h _ _ (by omega) (by omega)) ⟨rfl, ⟨rfl, trivial⟩⟩ ⟨(Fz.eq rfl), ⟨(Fz.eq rfl), trivial⟩⟩) rfl rfl rfl rfl pre0 rfl rfl rfl (k' := 62) rfl ?_
    refine hd_g 79 50 67 false _ (fun hb => hop_not rfl) rfl rfl rfl rfl pre0 rfl rfl rfl (k' := 63) rfl ?_
    first
    | refine hd_p 80 (hstep_and _ _ rfl rfl rfl) rfl rfl rfl (k' := 64) rfl ?_
    | refine hd_p 80 (hstep_or _ _ rfl rfl rfl) rfl rfl rfl (k' := 64) rfl ?_
    | refine hd_p 80 (hstep_pick _ _ _ _ rfl rfl rfl (fun _ => .refl _) (fun _ => .refl _)) rfl rfl rfl (k' := 64) rfl ?_
    refine hd_nil (by kernel_rfl) (by kernel_rfl) (c' := c + 64) rfl ?_
    refine h11 _ ?_
    refine hw_cond _ rfl (fun hc2 => ?_) (fun hc2 => ?_)
    · have hr2 := hc2; (try simp only [hcs, Int.reduceToNat] at hc2)
      refine srg fun N h12 => ?_
      refine sta rfl rfl rfl ?_
      refine snl h12 ?_
      refine hw_ret ?_
      refine hq_block_ret ?_
      refine hq_then_ret ?_
      refine hq_then_ret ?_
      refine hq_block_ret ?_
      refine hq_then_ret ?_
      refine hq_ret1 rfl (rval_tmp rfl) [] rfl pre0 ?_
      rw [decide_eq_false (fun h => by rw [h] at hr2; simp at hr2)]; exact .imm _
    have hr2 := hc2; (try simp only [hcs, Int.reduceToNat] at hc2)
    have hn : (a.getD k default).kind = (b.getD k default).kind ∧ (a.getD k default).low = (b.getD k default).low ∧ (a.getD k default).high = (b.getD k default).high ∧ (a.getD k default).name = (b.getD k default).name ∧ (a.getD k default).kids = (b.getD k default).kids := (by have h := hr2; simp at h; exact ⟨h.1.1.1.1, h.1.1.1.2, h.1.1.2, h.1.2, h.2⟩)
    refine hw_skip ?_
    refine hq_block ?_
    refine h10 _ ?_
    refine hw_region ?_
    refine stm rfl rfl rfl ?_
    first
    | refine hq_ 16 (hop_addi rfl rfl rfl (by first | exact Nat.le_of_ble_eq_true rfl | omega | (dsimp only; omega) | (simp <;> omega)) (by first | exact Nat.le_of_ble_eq_true rfl | omega | (dsimp only; omega) | (simp <;> omega))) rfl rfl pre0 rfl rfl ?_
    | refine hq_ 16 (hop_add rfl rfl) rfl rfl pre0 rfl rfl ?_
    refine sta rfl rfl rfl ?_
    refine hseq_nil ?_
    exact hL7 (k + 1) _ _ (by (try dsimp only); exact ⟨by omega, fun j hj => by by_cases e : j = k; (· subst e; exact pt_ext hn.1 hn.2.1 hn.2.2.1 hn.2.2.2.1 hn.2.2.2.2); exact hE j (by omega)⟩) (by (try dsimp only); omega) (hsub_of rfl (Nat.le_refl _) (TmSub.cons rfl (Sb.refl _) (TmSub.cons rfl (Sb.refl _) (TmSub.cons rfl (Sb.refl _) TmSub.nil))) HpSub.nil)
  have hr1 := hc1; (try simp only [hcs, Int.reduceToNat] at hc1)
  refine hw_exit ?_
  refine hq_then_exit ?_
  refine hq_then_exit ?_
  refine hq_block_here ?_
  refine h5 _ ?_
  refine srg fun N h13 => ?_
  refine sta rfl rfl rfl ?_
  refine snl h13 ?_
  refine hw_ret ?_
  refine hq_ret1 rfl (rval_tmp rfl) [] rfl pre0 ?_
  rw [decide_eq_true (ext_getD default (by omega) (fun j hj => hE j (by omega)))]; exact .imm _
theorem take_succ_pt (l : List Pt) {i : Nat} (h : i < l.length) : l.take (i + 1) = l.take i ++ [l.getD i default] := by
  rw [List.take_add_one, List.getD_eq_getElem?_getD, List.getElem?_eq_getElem h]; rfl
theorem sb_take {l : List Pt} {i : Nat} {g ty : Nat} {f : Nat → Nat → HV} (hil : i < l.length) (h : ∀ j, j < 5 → Sb (f 0 j) (ptF (l.getD i default) j)) : OSub ⟨g, i + 1, 5, ty, 0, cat i (ptsF (l.take i)) f⟩ ⟨g, i + 1, 5, ty, 0, ptsF (l.take (i + 1))⟩ := .of fun a j ha hj => by
  rw [take_succ_pt l hil]
  exact sb_cat (l := l.take i) (k := [l.getD i default]) (enc := ptF) (d := default) (by rw [List.length_take]; omega) (fun i j _ _ => .refl _) (sb_one (x := l.getD i default) (enc := ptF) (d := default) h) a j (by rw [List.length_append, List.length_take]; show a < min i l.length + 1; omega) hj
theorem theirs_h (e : List Pt) (he : e.length ≤ 100000) : HPure Tryd.prog 27 [ptsV e] (ptsV e) := by
  refine hpure_of Tryd.func27 rfl (by kernel_rfl) _ _ _ rfl 19 rfl rfl (fun w F => ?_)
  refine srg fun N h1 => ?_
  refine sta rfl rfl rfl ?_
  refine snl h1 ?_
  refine srg fun N h2 => ?_
  refine sta rfl rfl rfl ?_
  refine snl h2 ?_
  refine hw_seq (fun Nh3 h3 => ?_)
  refine srg fun N h4 => ?_
  refine sta rfl rfl rfl ?_
  refine snl h4 ?_
  refine hw_block ?_
  refine hw_own 3 3 5 75 ((ptsF [])) rfl (by decide) rfl (c' := 1) rfl ?_
  refine hw_loopc (α := Nat × Nat) (fun x c => ⟨19, [(0, .v (ptsV e)), (3, .v (.os 3 x.2 0 x.1)), (4, .v (intV x.1))], [(3, ⟨x.2, x.1, 5, 75, 0, ptsF (e.take x.1)⟩)], c⟩) (fun x => x.1 ≤ e.length) (fun x => e.length - x.1) ((0, 0)) (by exact Nat.zero_le _) (hsub_of rfl (Nat.le_refl _) (TmSub.cons rfl (Sb.refl _) (TmSub.cons rfl (Sb.refl _) (TmSub.cons rfl (Sb.refl _) TmSub.nil))) (HpSub.cons rfl (OSub.refl _) HpSub.nil)) (fun x c hx NhL5 hL5 => ?_)
  revert hx hL5; obtain ⟨i, g⟩ := x; intro hx hL5; dsimp only at hx hL5 ⊢
  refine hw_seq (fun Nh6 h6 => ?_)
  refine srg fun N h7 => ?_
  refine stm rfl rfl rfl ?_
  refine stm rfl rfl rfl ?_
  first
  | refine hq_ 7 (hop_len_sl (T := 41) rfl (elOf_spec el_41).1 rfl) rfl rfl pre0 rfl rfl ?_
  | refine hq_ 7 (hop_len_os (T := 41) rfl (elOf_spec el_41).1 rfl) rfl rfl pre0 rfl rfl ?_
  | refine hq_ 7 (hop_len_nil (T := 41) rfl (elOf_spec el_41).1 rfl) rfl rfl pre0 rfl rfl ?_
  refine st0 (hop_lss rfl rfl) rfl rfl ?_
  refine snl h7 ?_
  refine hw_cond _ rfl (fun hc0 => ?_) (fun hc0 => ?_)
  · have hr0 := hc0; (try simp only [hcs, Int.reduceToNat] at hc0)
    refine hw_skip ?_
    refine h6 _ ?_
    refine hw_seq (fun Nh8 h8 => ?_)
    refine hw_block ?_
    refine hw_region ?_
    refine stm rfl rfl rfl ?_
    refine stm rfl rfl rfl ?_
    refine stm rfl rfl rfl ?_
    first
    | refine hq_ 14 (hop_ia_sl el_41 rfl rfl (by first | exact Nat.le_of_ble_eq_true rfl | omega | (dsimp only; omega) | (simp <;> omega)) (by first | exact Nat.le_of_ble_eq_true rfl | omega | (dsimp only; omega) | (simp <;> omega)) (by first | exact Nat.le_of_ble_eq_true rfl | omega | (dsimp only; omega) | (simp <;> omega))) rfl rfl pre0 rfl rfl ?_
    | refine hq_ 14 (hol_ia_os el_41 rfl rfl (by first | exact Nat.le_of_ble_eq_true rfl | omega | (dsimp only; omega) | (simp <;> omega)) (by first | exact Nat.le_of_ble_eq_true rfl | omega | (dsimp only; omega) | (simp <;> omega))) rfl rfl (pre1 rfl) rfl rfl ?_
    first
    | refine hq_ 15 (hol_load ty_46 rfl (by first | exact Nat.le_of_ble_eq_true rfl | omega | (dsimp only; omega) | (simp <;> omega)) (by first | exact Nat.le_of_ble_eq_true rfl | omega | (dsimp only; omega) | (simp <;> omega)) (fun h => (by first | rfl | cases h))) rfl rfl (pre1 rfl) rfl rfl ?_
    | refine hq_ 15 (hop_load_fp ty_46 rfl (by first | exact Nat.le_of_ble_eq_true rfl | omega | (dsimp only; omega) | (simp <;> omega)) (fun h => (by first | rfl | cases h))) rfl rfl pre0 rfl rfl ?_
    refine hm_1 16 (hop_buildSlice (id := 16) (hs := [_]) ei_49 (by first | exact Nat.le_of_ble_eq_true rfl | omega | (dsimp only; omega) | (simp <;> omega)) rfl (by first | exact Nat.le_of_ble_eq_true rfl | omega | (dsimp only; omega) | (simp <;> omega)) ⟨rfl, rfl, rfl, rfl, trivial⟩) rfl rfl pre0 rfl rfl (c' := c + 1) rfl ?_
    first
    | refine hm_1 17 (hol_append ei_49 (by first | exact Nat.le_of_ble_eq_true rfl | omega | (dsimp only; omega) | (simp <;> omega)) rfl (by first | exact Nat.le_of_ble_eq_true rfl | omega | (dsimp only; omega) | (simp <;> omega)) (by first | exact Nat.le_of_ble_eq_true rfl | omega | (dsimp only; omega) | (simp <;> omega)) (srl_os0 rfl (by first | exact Nat.le_of_ble_eq_true rfl | omega | (dsimp only; omega) | (simp <;> omega))) (by first | exact Nat.le_of_ble_eq_true rfl | omega | (dsimp only; omega) | (simp <;> omega)) rfl) rfl rfl (preC rfl (pre1 rfl)) rfl rfl (c' := c + 2) rfl ?_
    | refine hm_1 17 (hol_append ei_49 (by first | exact Nat.le_of_ble_eq_true rfl | omega | (dsimp only; omega) | (simp <;> omega)) rfl (by first | exact Nat.le_of_ble_eq_true rfl | omega | (dsimp only; omega) | (simp <;> omega)) (by first | exact Nat.le_of_ble_eq_true rfl | omega | (dsimp only; omega) | (simp <;> omega)) (srl_os rfl (by first | exact Nat.le_of_ble_eq_true rfl | omega | (dsimp only; omega) | (simp <;> omega))) (by first | exact Nat.le_of_ble_eq_true rfl | omega | (dsimp only; omega) | (simp <;> omega)) rfl) rfl rfl (preC rfl (pre1 rfl)) rfl rfl (c' := c + 2) rfl ?_
    | refine hm_1 17 (hol_append ei_49 (by first | exact Nat.le_of_ble_eq_true rfl | omega | (dsimp only; omega) | (simp <;> omega)) rfl (by first | exact Nat.le_of_ble_eq_true rfl | omega | (dsimp only; omega) | (simp <;> omega)) (by first | exact Nat.le_of_ble_eq_true rfl | omega | (dsimp only; omega) | (simp <;> omega)) (src_sl rfl) (by first | exact Nat.le_of_ble_eq_true rfl | omega | (dsimp only; omega) | (simp <;> omega)) rfl) rfl rfl (preC rfl pre0) rfl rfl (c' := c + 2) rfl ?_
    | refine hm_1 17 (hol_append ei_49 (by first | exact Nat.le_of_ble_eq_true rfl | omega | (dsimp only; omega) | (simp <;> omega)) rfl (by first | exact Nat.le_of_ble_eq_true rfl | omega | (dsimp only; omega) | (simp <;> omega)) (by first | exact Nat.le_of_ble_eq_true rfl | omega | (dsimp only; omega) | (simp <;> omega)) (src_nil 5 (fun _ _ => default) rfl) (by first | exact Nat.le_of_ble_eq_true rfl | omega | (dsimp only; omega) | (simp <;> omega)) rfl) rfl rfl (preC rfl pre0) rfl rfl (c' := c + 2) rfl ?_
    refine sta rfl rfl rfl ?_
    refine hseq_nil ?_
    refine hq_block ?_
    refine h8 _ ?_
    refine hw_region ?_
    refine stm rfl rfl rfl ?_
    first
    | refine hq_ 10 (hop_addi rfl rfl rfl (by first | exact Nat.le_of_ble_eq_true rfl | omega | (dsimp only; omega) | (simp <;> omega)) (by first | exact Nat.le_of_ble_eq_true rfl | omega | (dsimp only; omega) | (simp <;> omega))) rfl rfl pre0 rfl rfl ?_
    | refine hq_ 10 (hop_add rfl rfl) rfl rfl pre0 rfl rfl ?_
    refine sta rfl rfl rfl ?_
    refine hseq_nil ?_
    exact hL5 ((i + 1, c + 1)) _ _ (by (try dsimp only); omega) (by (try dsimp only); omega) (hsub_of rfl (Nat.le_refl _) (TmSub.cons rfl (Sb.refl _) (TmSub.cons rfl (Sb.refl _) (TmSub.cons rfl (Sb.refl _) TmSub.nil))) (HpSub.cons rfl (sb_take (by omega) (sb_pt (.refl _) (.refl _) (.refl _) (.refl _) (.refl _))) HpSub.nil))
  have hr0 := hc0; (try simp only [hcs, Int.reduceToNat] at hc0)
  refine hw_exit ?_
  refine hq_then_exit ?_
  refine hq_then_exit ?_
  refine hq_block_here ?_
  refine h3 _ ?_
  refine hw_seq (fun Nh9 h9 => ?_)
  obtain rfl : i = e.length := (by omega)
  refine hw_region ?_
  refine stm rfl rfl rfl ?_
  refine sta rfl rfl rfl ?_
  refine snl h9 ?_
  refine hw_ret ?_
  refine hq_ret1 rfl (rval_tmp rfl) [(3, _)] rfl (preC rfl pre0) ?_
  exact fz_row (l := e) (enc := ptF) (d := default) (List.mem_cons_self ..) rfl rfl (Nat.le_refl _) (fun i j hi hj => by show Fz _ (ptF ((e.take e.length).getD i default) j) _; rw [List.take_length]; exact pt_fz _ j)
end Go.Proofs.YtmcchhmgchgaaaaDoor

namespace Go.Proofs.YtmcchhmgchgaaaaDoor
set_option linter.unusedSimpArgs false
set_option linter.unusedVariables false
set_option maxRecDepth 100000
set_option maxHeartbeats 1000000
open Go.RowKit

theorem getD_cut (a : List Int) {lo n k : Nat} (hk : k < n) (h : lo + n ≤ a.length) : ((a.drop lo).take n).getD k 0 = a.getD (lo + k) 0 := by
  rw [List.getD_eq_getElem?_getD, List.getD_eq_getElem?_getD, List.getElem?_take, if_pos hk, List.getElem?_drop]
theorem equal_h (g lo n : Nat) (a b : List Int) (ha : a.length ≤ 1000000) (hb : b.length ≤ 1000000) (hn : lo + n ≤ a.length) : HFunD Tryd.prog 49 [.os 8001 g lo n, kidsV b] [(8001, ⟨g, a.length, 1, 3, 0, kidsF a⟩)] (boolV (decide ((a.drop lo).take n = b))) [(8001, ⟨g, a.length, 1, 3, 0, kidsF a⟩)] := by
  have hcl : ((a.drop lo).take n).length = n := by rw [List.length_take, List.length_drop]; omega
  intro c
  refine hfun_of Tryd.func49 rfl (by kernel_rfl) _ _ _ _ rfl 26 rfl rfl (fun X ok hX => ?_)
  refine srg fun N h1 => ?_
  refine sta rfl rfl rfl ?_
  refine snl h1 ?_
  refine hw_seq (fun Nh2 h2 => ?_)
  refine srg fun N h3 => ?_
  refine stm rfl rfl rfl ?_
  refine st0 (hop_len_os (T := 44) rfl (elOf_spec el_44).1 rfl) rfl rfl ?_
  refine stm rfl rfl rfl ?_
  refine st0 (hop_len_sl (T := 44) rfl (elOf_spec el_44).1 rfl) rfl rfl ?_
  refine st0 (hop_neq rfl rfl) rfl rfl ?_
  refine snl h3 ?_
  refine hw_cond _ rfl (fun hc0 => ?_) (fun hc0 => ?_)
  · have hr0 := hc0; (try simp only [hcs, Int.reduceToNat] at hc0)
    refine srg fun N h4 => ?_
    refine sta rfl rfl rfl ?_
    refine snl h4 ?_
    refine hw_ret ?_
    refine hq_then_ret ?_
    refine hf_retR1 ok hX RetS.one rfl (rval_tmp rfl) [] rfl pre0 (()) (trivial) (by rfl) (by rfl) (by rw [decide_eq_false (fun h => hc0 (by rw [← h, hcl]))]; exact (by first | exact .fz _ _ (.imm _) | exact .os _ _ _ _ _ rfl rfl | exact .pt _ _ _ _ _ rfl rfl | exact .nps _ _ _ rfl rfl | (dsimp only; exact .fz _ _ Frz.fz) | exact .fz _ _ (.tup 0 _ _ (fun i hi => absurd hi (Nat.not_lt_zero _))))) ?_
    exact ⟨⟨_, rfl, .of (fun i j _ _ => .fz _ _ (.imm _))⟩, trivial⟩
  have hr0 := hc0; (try simp only [hcs, Int.reduceToNat] at hc0)
  refine hw_skip ?_
  refine h2 _ ?_
  refine hw_seq (fun Nh5 h5 => ?_)
  refine srg fun N h6 => ?_
  refine stm rfl rfl rfl ?_
  refine st0 (hop_len_os (T := 44) rfl (elOf_spec el_44).1 rfl) rfl rfl ?_
  refine stm rfl rfl rfl ?_
  refine snl h6 ?_
  refine hw_block ?_
  refine hw_loopc (α := Nat) (fun x c => ⟨26, [(0, .v (.os 8001 g lo n)), (1, .v (kidsV b)), (12, .v (intV n)), (13, .v (intV x))], [(8001, ⟨g, a.length, 1, 3, 0, kidsF a⟩)], c⟩) (fun x => x ≤ n ∧ ∀ j, j < x → a.getD (lo + j) 0 = b.getD j 0) (fun x => n - x) (0) (by exact ⟨Nat.zero_le _, fun j hj => absurd hj (Nat.not_lt_zero _)⟩) (hsub_of rfl (Nat.le_refl _) (TmSub.cons rfl (Sb.refl _) (TmSub.cons rfl (Sb.refl _) (TmSub.cons rfl (Sb.refl _) (TmSub.cons rfl (Sb.refl _) TmSub.nil)))) (HpSub.cons rfl (OSub.refl _) HpSub.nil)) (fun k c hx NhL7 hL7 => ?_)
  (try dsimp only at hx hL7 ⊢)
  obtain ⟨hk, hE⟩ := hx
  refine srg fun N h8 => ?_
  refine st0 (hop_lss rfl rfl) rfl rfl ?_
  refine snl h8 ?_
  refine hw_seq (fun Nh9 h9 => ?_)
  refine hw_cond _ rfl (fun hc1 => ?_) (fun hc1 => ?_)
  · have hr1 := hc1; (try simp only [hcs, Int.reduceToNat] at hc1)
    refine hw_skip ?_
    refine h9 _ ?_
    refine hw_seq (fun Nh10 h10 => ?_)
    refine hw_block ?_
    refine srg fun N h11 => ?_
    refine stm rfl rfl rfl ?_
    refine sta rfl rfl rfl ?_
    refine snl h11 ?_
    refine hw_seq (fun Nh12 h12 => ?_)
    refine hd_start ?_
    refine hd_q 16 (hop_move rfl) rfl rfl pre0 rfl rfl (k' := 1) rfl ?_
    refine hd_q 17 (hop_move rfl) rfl rfl pre0 rfl rfl (k' := 2) rfl ?_
    refine hd_q 18 (hol_ia_os el_44 rfl rfl (by omega) (by omega)) rfl rfl (pre1 rfl) rfl rfl (k' := 3) rfl ?_
    refine hd_q 19 (HOp.val (v' := intV (a.getD (lo + k) 0)) (hol_load ty_3 rfl (by omega) (nb rfl) (fun h => (by rfl))) (rfl)) rfl rfl (pre1 rfl) rfl rfl (k' := 4) rfl ?_
    refine hd_q 20 (hop_move rfl) rfl rfl pre0 rfl rfl (k' := 5) rfl ?_
    refine hd_q 21 (hop_move rfl) rfl rfl pre0 rfl rfl (k' := 6) rfl ?_
    refine hd_q 22 (hop_ia_sl el_44 rfl rfl (by omega) (by omega) (nb rfl)) rfl rfl pre0 rfl rfl (k' := 7) rfl ?_
    refine hd_q 23 (HOp.val (v' := intV (b.getD k 0)) (hop_load_fp ty_3 rfl (nb rfl) (fun h => (by rfl))) (rfl)) rfl rfl pre0 rfl rfl (k' := 8) rfl ?_
    refine hd_q 24 (hop_neq rfl rfl) rfl rfl pre0 rfl rfl (k' := 9) rfl ?_
    refine hd_nil (by kernel_rfl) (by kernel_rfl) (c' := c + 9) rfl ?_
    refine h12 _ ?_
    refine hw_cond _ rfl (fun hc2 => ?_) (fun hc2 => ?_)
    · have hr2 := hc2; (try simp only [hcs, Int.reduceToNat] at hc2)
      refine srg fun N h13 => ?_
      refine sta rfl rfl rfl ?_
      refine snl h13 ?_
      refine hw_ret ?_
      refine hq_block_ret ?_
      refine hq_then_ret ?_
      refine hq_then_ret ?_
      refine hq_block_ret ?_
      refine hq_then_ret ?_
      refine hf_retR1 ok hX RetS.one rfl (rval_tmp rfl) [] rfl pre0 (()) (trivial) (by rfl) (by rfl) (by rw [decide_eq_false (fun h => hc2 (by rw [← h, getD_cut a (by omega) hn]))]; exact (by first | exact .fz _ _ (.imm _) | exact .os _ _ _ _ _ rfl rfl | exact .pt _ _ _ _ _ rfl rfl | exact .nps _ _ _ rfl rfl | (dsimp only; exact .fz _ _ Frz.fz) | exact .fz _ _ (.tup 0 _ _ (fun i hi => absurd hi (Nat.not_lt_zero _))))) ?_
      exact ⟨⟨_, rfl, .of (fun i j _ _ => .fz _ _ (.imm _))⟩, trivial⟩
    have hr2 := hc2; (try simp only [hcs, Int.reduceToNat] at hc2)
    refine hw_skip ?_
    refine hq_block ?_
    refine h10 _ ?_
    refine hw_region ?_
    refine st0 (hop_addi rfl rfl rfl (by omega) (by omega)) rfl rfl ?_
    refine stm rfl rfl rfl ?_
    refine hseq_nil ?_
    exact hL7 (k + 1) _ _ (by (try dsimp only); exact ⟨by omega, fun j hj => by by_cases e : j = k; (· subst e; exact hc2); exact hE j (by omega)⟩) (by (try dsimp only); omega) (hsub_of rfl (Nat.le_refl _) (TmSub.cons rfl (Sb.refl _) (TmSub.cons rfl (Sb.refl _) (TmSub.cons rfl (Sb.refl _) (TmSub.cons rfl (Sb.refl _) TmSub.nil)))) (HpSub.cons rfl (OSub.refl _) HpSub.nil))
  have hr1 := hc1; (try simp only [hcs, Int.reduceToNat] at hc1)
  refine hw_exit ?_
  refine hq_then_exit ?_
  refine hq_then_exit ?_
  refine hq_block_here ?_
  refine h5 _ ?_
  refine srg fun N h14 => ?_
  refine sta rfl rfl rfl ?_
  refine snl h14 ?_
  refine hw_ret ?_
  refine hf_retR1 ok hX RetS.one rfl (rval_tmp rfl) [] rfl pre0 (()) (trivial) (by rfl) (by rfl) (by rw [decide_eq_true (ext_getD 0 (by omega) (fun j hj => by rw [getD_cut a (by omega) hn]; exact hE j (by omega)))]; exact (by first | exact .fz _ _ (.imm _) | exact .os _ _ _ _ _ rfl rfl | exact .pt _ _ _ _ _ rfl rfl | exact .nps _ _ _ rfl rfl | (dsimp only; exact .fz _ _ Frz.fz) | exact .fz _ _ (.tup 0 _ _ (fun i hi => absurd hi (Nat.not_lt_zero _))))) ?_
  exact ⟨⟨_, rfl, .of (fun i j _ _ => .fz _ _ (.imm _))⟩, trivial⟩
theorem beq_d (a b : Int) : (a == b) = decide (a = b) := rfl
theorem int_0 (n : Nat) : decide ((n : Int) = 0) = decide (n = 0) := decide_eq_decide.2 (by omega)
theorem int_1 (n : Nat) : decide ((n : Int) = 1) = decide (n = 1) := decide_eq_decide.2 (by omega)
theorem int_lt1 (n : Nat) : decide (1 < (n : Int)) = decide (1 < n) := decide_eq_decide.2 (by omega)
theorem name6_h (s : List UInt8) (hs : s.length ≤ 1000000) : HPure Tryd.prog 69 [strV s] (boolV (nameV s)) := by
  have hlen := lexO_len s
  have hlx := lex_h s hs
  have hN : nameV s = (match lexO (lexV s) with | (l, _, e) => decide (e = 0) && decide (l.length = 1) && decide ((l.getD 0 default).kind = 1) && decide ((l.getD 0 default).name = s)) := by
    unfold nameV
    cases hv : lexV s with
    | error e =>
      have h := lexV_err hv
      have h2 : ¬ (e.2 = 0) := h
      show false = (decide (e.2 = 0) && _ && _ && _)
      rw [decide_eq_false h2]; rfl
    | ok l =>
      match l with
      | [] => rfl
      | [x] => rfl
      | x :: y :: l => simp [lexO]
  generalize hr : lexO (lexV s) = r at hlen hlx hN
  rw [hN]
  obtain ⟨l, a, e⟩ := r
  refine hpure_of Tryd.func69 rfl (by kernel_rfl) _ _ _ rfl 34 rfl rfl (fun w F => ?_)
  refine srg fun N h1 => ?_
  refine sta rfl rfl rfl ?_
  refine snl h1 ?_
  refine srg fun N h2 => ?_
  refine stm rfl rfl rfl ?_
  refine st0 (hop_call0 (xs := [_]) (hlx) ⟨rfl, trivial⟩ ⟨(Fz.eq rfl), trivial⟩) rfl rfl ?_
  refine stm rfl rfl rfl ?_
  refine st0 (hop_extract rfl rfl) rfl rfl ?_
  refine st0 (hop_extract rfl rfl) rfl rfl ?_
  refine st0 (hop_extract rfl rfl) rfl rfl ?_
  refine sta rfl rfl rfl ?_
  refine sta rfl rfl rfl ?_
  refine sta rfl rfl rfl ?_
  refine snl h2 ?_
  refine srg fun N h3 => ?_
  refine stm rfl rfl rfl ?_
  refine st0 (hop_eql rfl rfl) rfl rfl ?_
  refine stm rfl rfl rfl ?_
  refine stg 14 (fun hb => hop_move rfl) rfl rfl rfl rfl rfl ?_
  refine stg 14 (fun hb => hop_len_sl (T := 86) rfl (elOf_spec el_86).1 rfl) rfl rfl rfl rfl rfl ?_
  refine stg 14 (fun hb => hop_eql rfl rfl) rfl rfl rfl rfl rfl ?_
  refine hq_p 18 (hstep_and _ _ rfl rfl rfl) rfl rfl rfl ?_
  refine stm rfl rfl rfl ?_
  refine stg 19 (fun hb => hop_move rfl) rfl rfl rfl rfl rfl ?_
  refine stg 19 (fun hb => hop_ia_sl el_86 rfl rfl (by (simp at hb; first | omega | (dsimp only; omega) | (simp <;> omega))) (by (simp at hb; first | omega | (dsimp only; omega) | (simp <;> omega))) (nb rfl)) rfl rfl rfl rfl rfl ?_
  refine stg 19 (fun hb => hop_fa_fp fd_108_0 rfl (nb rfl)) rfl rfl rfl rfl rfl ?_
  refine stg 19 (fun hb => HOp.val (v' := intV (l.getD 0 default).kind) (hop_load_fp ty_3 rfl (nb rfl) (fun h => (by rfl))) (rfl)) rfl rfl rfl rfl rfl ?_
  refine stg 19 (fun hb => hop_eql rfl rfl) rfl rfl rfl rfl rfl ?_
  refine hq_p 25 (hstep_and _ _ rfl rfl rfl) rfl rfl rfl ?_
  refine stm rfl rfl rfl ?_
  refine stg 26 (fun hb => hop_move rfl) rfl rfl rfl rfl rfl ?_
  refine stg 26 (fun hb => hop_ia_sl el_86 rfl rfl (by (simp at hb; first | omega | (dsimp only; omega) | (simp <;> omega))) (by (simp at hb; first | omega | (dsimp only; omega) | (simp <;> omega))) (nb rfl)) rfl rfl rfl rfl rfl ?_
  refine stg 26 (fun hb => hop_fa_fp fd_108_4 rfl (nb rfl)) rfl rfl rfl rfl rfl ?_
  refine stg 26 (fun hb => HOp.val (v' := strV (l.getD 0 default).name) (hop_load_fp ty_9 rfl (nb rfl) (fun h => (by rfl))) (rfl)) rfl rfl rfl rfl rfl ?_
  refine stg 26 (fun hb => hop_move rfl) rfl rfl rfl rfl rfl ?_
  refine stg 26 (fun hb => hop_seq_l rfl rfl) rfl rfl rfl rfl rfl ?_
  refine hq_p 33 (hstep_and _ _ rfl rfl rfl) rfl rfl rfl ?_
  refine sta rfl rfl rfl ?_
  refine hseq_nilU (by rfl) (by simp only [dropUn, slots]; exact rfl) ?_
  refine h3 _ ?_
  refine hw_ret ?_
  refine hq_ret1 rfl (rval_tmp rfl) [] rfl pre0 ?_
  exact fz_bool (by simp only [beq_d, int_1])
theorem alone_h (x : Pt) (hk : x.kids.length ≤ 1000000) (hn : x.name.length ≤ 1000000) : HPure Tryd.prog 48 [ptH x] (boolV (aloneV x)) := by
  unfold aloneV
  refine hpure_of Tryd.func48 rfl (by kernel_rfl) _ _ _ rfl 89 rfl rfl (fun w F => ?_)
  refine srg fun N h1 => ?_
  refine hm_1 1 (hop_box (id := 1) (sz := 5) rfl rfl rfl (nb rfl) (nb rfl)) rfl rfl pre0 rfl rfl (c' := 1) rfl ?_
  refine sta rfl rfl rfl ?_
  refine snl h1 ?_
  refine hw_seq (fun Nh2 h2 => ?_)
  refine srg fun N h3 => ?_
  refine st0 (hop_fa fd_75_0 rfl) rfl rfl ?_
  refine st1 (hol_load ty_3 rfl (nb rfl) (nb rfl) (fun h => (by rfl))) rfl rfl rfl ?_
  refine snl h3 ?_
  refine hw_block ?_
  refine srg fun N h4 => ?_
  refine st0 (hop_eql rfl rfl) rfl rfl ?_
  refine sta rfl rfl rfl ?_
  refine snl h4 ?_
  refine hw_cond _ rfl (fun hc0 => ?_) (fun hc0 => ?_)
  · have hr0 := hc0; (try simp only [hcs, Int.reduceToNat] at hc0)
    refine srg fun N h5 => ?_
    refine st0 (hop_fa fd_75_4 rfl) rfl rfl ?_
    refine st1 (hol_load ty_44 rfl (nb rfl) (nb rfl) (fun h => (by rfl))) rfl rfl rfl ?_
    refine st0 (hop_len_sl (T := 44) rfl (elOf_spec el_44).1 rfl) rfl rfl ?_
    refine st0 (hop_eql rfl rfl) rfl rfl ?_
    refine stm rfl rfl rfl ?_
    refine stg 12 (fun hb => hop_fa fd_75_1 rfl) rfl rfl rfl rfl rfl ?_
    refine hq_g 14 4 12 true _ (fun hb => hol_load ty_3 rfl (nb rfl) (nb rfl) (fun h => (by rfl))) rfl rfl rfl rfl (pre1 rfl) rfl rfl rfl ?_
    refine stg 12 (fun hb => hop_eql rfl rfl) rfl rfl rfl rfl rfl ?_
    refine hq_p 16 (hstep_and _ _ rfl rfl rfl) rfl rfl rfl ?_
    refine stm rfl rfl rfl ?_
    refine stg 17 (fun hb => hop_fa fd_75_2 rfl) rfl rfl rfl rfl rfl ?_
    refine hq_g 19 9 17 true _ (fun hb => hol_load ty_3 rfl (nb rfl) (nb rfl) (fun h => (by rfl))) rfl rfl rfl rfl (pre1 rfl) rfl rfl rfl ?_
    refine stg 17 (fun hb => hop_eql rfl rfl) rfl rfl rfl rfl rfl ?_
    refine hq_p 21 (hstep_and _ _ rfl rfl rfl) rfl rfl rfl ?_
    refine stm rfl rfl rfl ?_
    refine stg 22 (fun hb => hop_fa fd_75_3 rfl) rfl rfl rfl rfl rfl ?_
    refine hq_g 24 14 22 true _ (fun hb => hol_load ty_9 rfl (nb rfl) (nb rfl) (fun h => (by rfl))) rfl rfl rfl rfl (pre1 rfl) rfl rfl rfl ?_
    refine stg 22 (fun hb => hop_call0 (xs := [_]) (name6_h x.name hn) ⟨rfl, trivial⟩ ⟨(Fz.eq rfl), trivial⟩) rfl rfl rfl rfl rfl ?_
    refine hq_p 26 (hstep_and _ _ rfl rfl rfl) rfl rfl rfl ?_
    refine sta rfl rfl rfl ?_
    refine hseq_nilU (by rfl) (by simp only [dropUn, slots]; exact rfl) ?_
    refine h5 _ ?_
    refine hw_ret ?_
    refine hq_block_ret ?_
    refine hq_then_ret ?_
    refine hq_ret1 rfl (rval_tmp rfl) [] rfl pre0 ?_
    rw [if_pos hc0]; exact fz_bool (by simp only [beq_d, int_0])
  have hr0 := hc0; (try simp only [hcs, Int.reduceToNat] at hc0)
  refine hw_seq (fun Nh6 h6 => ?_)
  refine srg fun N h7 => ?_
  refine st0 (hop_eql rfl rfl) rfl rfl ?_
  refine sta rfl rfl rfl ?_
  refine snl h7 ?_
  refine hw_cond _ rfl (fun hc1 => ?_) (fun hc1 => ?_)
  · have hr1 := hc1; (try simp only [hcs, Int.reduceToNat] at hc1)
    refine hw_skip ?_
    refine h6 _ ?_
    refine hw_cond _ rfl (fun hc2 => ?_) (fun hc2 => ?_)
    · have hr2 := hc2; (try simp only [hcs, Int.reduceToNat] at hc2)
      refine srg fun N h8 => ?_
      refine st0 (hop_fa fd_75_4 rfl) rfl rfl ?_
      refine st1 (hol_load ty_44 rfl (nb rfl) (nb rfl) (fun h => (by rfl))) rfl rfl rfl ?_
      refine st0 (hop_len_sl (T := 44) rfl (elOf_spec el_44).1 rfl) rfl rfl ?_
      refine st0 (hop_gtr rfl rfl) rfl rfl ?_
      refine stm rfl rfl rfl ?_
      refine stg 34 (fun hb => hop_fa fd_75_1 rfl) rfl rfl rfl rfl rfl ?_
      refine hq_g 36 4 34 true _ (fun hb => hol_load ty_3 rfl (nb rfl) (nb rfl) (fun h => (by rfl))) rfl rfl rfl rfl (pre1 rfl) rfl rfl rfl ?_
      refine stg 34 (fun hb => hop_eql rfl rfl) rfl rfl rfl rfl rfl ?_
      refine hq_p 38 (hstep_and _ _ rfl rfl rfl) rfl rfl rfl ?_
      refine stm rfl rfl rfl ?_
      refine stg 39 (fun hb => hop_fa fd_75_2 rfl) rfl rfl rfl rfl rfl ?_
      refine hq_g 41 9 39 true _ (fun hb => hol_load ty_3 rfl (nb rfl) (nb rfl) (fun h => (by rfl))) rfl rfl rfl rfl (pre1 rfl) rfl rfl rfl ?_
      refine stg 39 (fun hb => hop_eql rfl rfl) rfl rfl rfl rfl rfl ?_
      refine hq_p 43 (hstep_and _ _ rfl rfl rfl) rfl rfl rfl ?_
      refine stm rfl rfl rfl ?_
      refine stg 44 (fun hb => hop_fa fd_75_3 rfl) rfl rfl rfl rfl rfl ?_
      refine hq_g 46 14 44 true _ (fun hb => hol_load ty_9 rfl (nb rfl) (nb rfl) (fun h => (by rfl))) rfl rfl rfl rfl (pre1 rfl) rfl rfl rfl ?_
      refine stg 44 (fun hb => hop_seq_l rfl rfl) rfl rfl rfl rfl rfl ?_
      refine hq_p 48 (hstep_and _ _ rfl rfl rfl) rfl rfl rfl ?_
      refine sta rfl rfl rfl ?_
      refine hseq_nilU (by rfl) (by simp only [dropUn, slots]; exact rfl) ?_
      refine h8 _ ?_
      refine hw_ret ?_
      refine hq_block_ret ?_
      refine hq_then_ret ?_
      refine hq_ret1 rfl (rval_tmp rfl) [] rfl pre0 ?_
      rw [if_neg hc0, if_pos (.inl hc1)]; exact fz_bool (by simp only [beq_d, int_lt1])
    have hr2 := hc2; (try simp only [hcs, Int.reduceToNat] at hc2)
    exfalso; exact absurd hr2 (by rw [hc1]; decide)
  have hr1 := hc1; (try simp only [hcs, Int.reduceToNat] at hc1)
  refine hw_region ?_
  refine st0 (hop_eql rfl rfl) rfl rfl ?_
  refine sta rfl rfl rfl ?_
  refine snl h6 ?_
  refine hw_cond _ rfl (fun hc2 => ?_) (fun hc2 => ?_)
  · have hr2 := hc2; (try simp only [hcs, Int.reduceToNat] at hc2)
    refine srg fun N h9 => ?_
    refine st0 (hop_fa fd_75_4 rfl) rfl rfl ?_
    refine st1 (hol_load ty_44 rfl (nb rfl) (nb rfl) (fun h => (by rfl))) rfl rfl rfl ?_
    refine st0 (hop_len_sl (T := 44) rfl (elOf_spec el_44).1 rfl) rfl rfl ?_
    refine st0 (hop_gtr rfl rfl) rfl rfl ?_
    refine stm rfl rfl rfl ?_
    refine stg 34 (fun hb => hop_fa fd_75_1 rfl) rfl rfl rfl rfl rfl ?_
    refine hq_g 36 4 34 true _ (fun hb => hol_load ty_3 rfl (nb rfl) (nb rfl) (fun h => (by rfl))) rfl rfl rfl rfl (pre1 rfl) rfl rfl rfl ?_
    refine stg 34 (fun hb => hop_eql rfl rfl) rfl rfl rfl rfl rfl ?_
    refine hq_p 38 (hstep_and _ _ rfl rfl rfl) rfl rfl rfl ?_
    refine stm rfl rfl rfl ?_
    refine stg 39 (fun hb => hop_fa fd_75_2 rfl) rfl rfl rfl rfl rfl ?_
    refine hq_g 41 9 39 true _ (fun hb => hol_load ty_3 rfl (nb rfl) (nb rfl) (fun h => (by rfl))) rfl rfl rfl rfl (pre1 rfl) rfl rfl rfl ?_
    refine stg 39 (fun hb => hop_eql rfl rfl) rfl rfl rfl rfl rfl ?_
    refine hq_p 43 (hstep_and _ _ rfl rfl rfl) rfl rfl rfl ?_
    refine stm rfl rfl rfl ?_
    refine stg 44 (fun hb => hop_fa fd_75_3 rfl) rfl rfl rfl rfl rfl ?_
    refine hq_g 46 14 44 true _ (fun hb => hol_load ty_9 rfl (nb rfl) (nb rfl) (fun h => (by rfl))) rfl rfl rfl rfl (pre1 rfl) rfl rfl rfl ?_
    refine stg 44 (fun hb => hop_seq_l rfl rfl) rfl rfl rfl rfl rfl ?_
    refine hq_p 48 (hstep_and _ _ rfl rfl rfl) rfl rfl rfl ?_
    refine sta rfl rfl rfl ?_
    refine hseq_nilU (by rfl) (by simp only [dropUn, slots]; exact rfl) ?_
    refine h9 _ ?_
    refine hw_ret ?_
    refine hq_block_ret ?_
    refine hq_then_ret ?_
    refine hq_ret1 rfl (rval_tmp rfl) [] rfl pre0 ?_
    rw [if_neg hc0, if_pos (.inr hc2)]; exact fz_bool (by simp only [beq_d, int_lt1])
  have hr2 := hc2; (try simp only [hcs, Int.reduceToNat] at hc2)
  refine srg fun N h10 => ?_
  refine st0 (hop_eql rfl rfl) rfl rfl ?_
  refine sta rfl rfl rfl ?_
  refine snl h10 ?_
  refine hw_cond _ rfl (fun hc3 => ?_) (fun hc3 => ?_)
  · have hr3 := hc3; (try simp only [hcs, Int.reduceToNat] at hc3)
    refine srg fun N h11 => ?_
    refine st0 (hop_fa fd_75_2 rfl) rfl rfl ?_
    refine st1 (hol_load ty_3 rfl (nb rfl) (nb rfl) (fun h => (by rfl))) rfl rfl rfl ?_
    refine st0 (hop_eql rfl rfl) rfl rfl ?_
    refine stm rfl rfl rfl ?_
    refine stg 54 (fun hb => hop_fa fd_75_2 rfl) rfl rfl rfl rfl rfl ?_
    refine hq_g 56 3 54 false _ (fun hb => hol_load ty_3 rfl (nb rfl) (nb rfl) (fun h => (by rfl))) rfl rfl rfl rfl (pre1 rfl) rfl rfl rfl ?_
    refine stg 54 (fun hb => hop_fa fd_75_1 rfl) rfl rfl rfl rfl rfl ?_
    refine hq_g 58 3 54 false _ (fun hb => hol_load ty_3 rfl (nb rfl) (nb rfl) (fun h => (by rfl))) rfl rfl rfl rfl (pre1 rfl) rfl rfl rfl ?_
    refine stg 54 (fun hb => hop_max rfl rfl) rfl rfl rfl rfl rfl ?_
    refine stg 54 (fun hb => hop_geq rfl rfl) rfl rfl rfl rfl rfl ?_
    refine stg 54 (fun hb => hop_move rfl) rfl rfl rfl rfl rfl ?_
    refine hq_g3 62 10 61 54 false true _ _ (fun hb hb2 => hop_fa fd_75_2 rfl) rfl rfl rfl rfl rfl pre0 rfl rfl rfl ?_
    refine hq_g3 63 10 61 54 false true _ _ (fun hb hb2 => hol_load ty_3 rfl (nb rfl) (nb rfl) (fun h => (by rfl))) rfl rfl rfl rfl rfl (pre1 rfl) rfl rfl rfl ?_
    refine hq_g3 64 10 61 54 false true _ _ (fun hb hb2 => hop_leq rfl rfl) rfl rfl rfl rfl rfl pre0 rfl rfl rfl ?_
    refine hq_pg 65 (hstep_andg (gi := 3) (j := 54) _ _ rfl rfl rfl rfl) rfl rfl rfl rfl ?_
    refine hq_p 66 (hstep_or _ _ rfl rfl rfl) rfl rfl rfl ?_
    refine sta rfl rfl rfl ?_
    refine hseq_nilU (by rfl) (by simp only [dropUn, slots]; exact rfl) ?_
    refine h11 _ ?_
    refine srg fun N h12 => ?_
    refine st0 (hop_fa fd_75_4 rfl) rfl rfl ?_
    refine st1 (hol_load ty_44 rfl (nb rfl) (nb rfl) (fun h => (by rfl))) rfl rfl rfl ?_
    refine st0 (hop_len_sl (T := 44) rfl (elOf_spec el_44).1 rfl) rfl rfl ?_
    refine st0 (hop_eql rfl rfl) rfl rfl ?_
    refine stm rfl rfl rfl ?_
    refine stg 71 (fun hb => hop_fa fd_75_1 rfl) rfl rfl rfl rfl rfl ?_
    refine hq_g 73 4 71 true _ (fun hb => hol_load ty_3 rfl (nb rfl) (nb rfl) (fun h => (by rfl))) rfl rfl rfl rfl (pre1 rfl) rfl rfl rfl ?_
    refine stg 71 (fun hb => hop_geq rfl rfl) rfl rfl rfl rfl rfl ?_
    refine hq_p 75 (hstep_and _ _ rfl rfl rfl) rfl rfl rfl ?_
    refine stm rfl rfl rfl ?_
    refine stg 76 (fun hb => hop_fa fd_75_1 rfl) rfl rfl rfl rfl rfl ?_
    refine hq_g 78 9 76 true _ (fun hb => hol_load ty_3 rfl (nb rfl) (nb rfl) (fun h => (by rfl))) rfl rfl rfl rfl (pre1 rfl) rfl rfl rfl ?_
    refine stg 76 (fun hb => hop_leq rfl rfl) rfl rfl rfl rfl rfl ?_
    refine hq_p 80 (hstep_and _ _ rfl rfl rfl) rfl rfl rfl ?_
    refine stm rfl rfl rfl ?_
    refine stg 81 (fun hb => hop_move rfl) rfl rfl rfl rfl rfl ?_
    refine hq_p 83 (hstep_and _ _ rfl rfl rfl) rfl rfl rfl ?_
    refine stm rfl rfl rfl ?_
    refine stg 84 (fun hb => hop_fa fd_75_3 rfl) rfl rfl rfl rfl rfl ?_
    refine hq_g 86 17 84 true _ (fun hb => hol_load ty_9 rfl (nb rfl) (nb rfl) (fun h => (by rfl))) rfl rfl rfl rfl (pre1 rfl) rfl rfl rfl ?_
    refine stg 84 (fun hb => hop_seq_l rfl rfl) rfl rfl rfl rfl rfl ?_
    refine hq_p 88 (hstep_and _ _ rfl rfl rfl) rfl rfl rfl ?_
    refine sta rfl rfl rfl ?_
    refine hseq_nilU (by rfl) (by simp only [dropUn, slots]; exact rfl) ?_
    refine h12 _ ?_
    refine hw_ret ?_
    refine hq_block_ret ?_
    refine hq_then_ret ?_
    refine hq_ret1 rfl (rval_tmp rfl) [] rfl pre0 ?_
    rw [if_neg hc0, if_neg (show ¬ (x.kind = 2 ∨ x.kind = 3) by omega), if_pos hc3]; exact fz_bool (by simp only [beq_d, int_1])
  have hr3 := hc3; (try simp only [hcs, Int.reduceToNat] at hc3)
  refine hw_skip ?_
  refine hq_block ?_
  refine h2 _ ?_
  refine srg fun N h13 => ?_
  refine sta rfl rfl rfl ?_
  refine snl h13 ?_
  refine hw_ret ?_
  refine hq_ret1 rfl (rval_tmp rfl) [] rfl pre0 ?_
  rw [if_neg hc0, if_neg (show ¬ (x.kind = 2 ∨ x.kind = 3) by omega), if_neg hc3]; exact .imm _
theorem right_step {n i : Nat} {e : List Pt} {op : List Int} (hi : i < e.length) : rightL n i (e.drop i) op = ((aloneV (e.getD i default) && (decide ((e.getD i default).kids.length ≤ op.length) && decide (op.drop (op.length - (e.getD i default).kids.length) = (e.getD i default).kids))) && rightL n (i + 1) (e.drop (i + 1)) (op.take (op.length - (e.getD i default).kids.length) ++ [(i : Int)])) := by
  have h : e.drop i = e.getD i default :: e.drop (i + 1) := by
    rw [List.getD_eq_getElem?_getD, List.getElem?_eq_getElem hi, List.drop_eq_getElem_cons hi]; rfl
  rw [h]; rfl
theorem os_eq {id g lo lo' n n' : Nat} (h1 : lo = lo') (h2 : n = n') : HV.os id g lo n = HV.os id g lo' n' := by subst h1; subst h2; rfl
instance frz_ptH (x : Pt) : Frz (ptH x) := ⟨.agg _ _ _ fun j hj => pt_fz x j⟩
theorem cut_all6 {op : List Int} {k : Nat} (h : k ≤ op.length) : (op.drop (op.length - k)).take k = op.drop (op.length - k) := List.take_of_length_le (by rw [List.length_drop]; omega)
theorem right_no {x : Pt} {op : List Int} (h : (!aloneV x || decide ((op.length : Int) - x.kids.length < 0) || !decide ((op.drop (op.length - x.kids.length)).take x.kids.length = x.kids)) = true) : (aloneV x && (decide (x.kids.length ≤ op.length) && decide (op.drop (op.length - x.kids.length) = x.kids))) = false := by
  by_cases hk : x.kids.length ≤ op.length
  · rw [cut_all6 hk, decide_eq_false (show ¬ ((op.length : Int) - x.kids.length < 0) by omega)] at h
    rw [decide_eq_true hk]
    cases ha : aloneV x <;> rw [ha] at h <;> simp at h ⊢
    exact h
  · rw [decide_eq_false hk]; simp
theorem right_yes {x : Pt} {op : List Int} (h : (!aloneV x || decide ((op.length : Int) - x.kids.length < 0) || !decide ((op.drop (op.length - x.kids.length)).take x.kids.length = x.kids)) = false) : (aloneV x && (decide (x.kids.length ≤ op.length) && decide (op.drop (op.length - x.kids.length) = x.kids))) = true ∧ x.kids.length ≤ op.length := by
  simp only [Bool.or_eq_false_iff, Bool.not_eq_false', decide_eq_false_iff_not] at h
  have hk : x.kids.length ≤ op.length := by omega
  have h2 := h.2
  rw [cut_all6 hk] at h2
  exact ⟨by rw [h.1.1, decide_eq_true hk, h2]; rfl, hk⟩
theorem osub_cut {op : List Int} {N k g ty : Nat} {r : Int} {F : Nat → Nat → HV} (hN : N = k) (hk : k ≤ op.length) (hF : ∀ j, F 0 j = intV r) : OSub ⟨g, N + 1, 1, ty, 0, cat N (kidsF op) F⟩ ⟨g, (op.take k ++ [r]).length, 1, ty, 0, kidsF (op.take k ++ [r])⟩ := by
  subst hN
  have hl : (op.take N).length = N := by rw [List.length_take]; omega
  exact osub_snoc (enc := fun x _ => intV x) (d := 0) (out := op.take N) hl.symm (fun i j hi hj => by
    have : (op.take N).getD i 0 = op.getD i 0 := by rw [List.getD_eq_getElem?_getD, List.getD_eq_getElem?_getD, List.getElem?_take, if_pos (by omega)]
    show Sb (intV (op.getD i 0)) (intV ((op.take N).getD i 0))
    rw [this]; exact .refl _) (fun j hj => by rw [hF]; exact .refl _)
theorem right_g {a : Bool} {ol kl : Nat} (h : (!a || decide ((ol : Int) - kl < 0)) = false) : ol - kl + kl ≤ ol := by simp at h; omega
theorem right_h (e : List Pt) (he : PtB e) : HPure Tryd.prog 26 [ptsV e] (boolV (rightV e)) := by
  have hel := he.1
  refine hpure_of Tryd.func26 rfl (by kernel_rfl) _ _ _ rfl 51 rfl rfl (fun w F => ?_)
  refine srg fun N h1 => ?_
  refine sta rfl rfl rfl ?_
  refine snl h1 ?_
  refine srg fun N h2 => ?_
  refine sta rfl rfl rfl ?_
  refine snl h2 ?_
  refine hw_seq (fun Nh3 h3 => ?_)
  refine srg fun N h4 => ?_
  refine stm rfl rfl rfl ?_
  refine st0 (hop_len_sl (T := 49) rfl (elOf_spec el_49).1 rfl) rfl rfl ?_
  refine stm rfl rfl rfl ?_
  refine snl h4 ?_
  refine hw_block ?_
  refine hw_own 3 8001 1 3 ((kidsF [])) rfl (by decide) rfl (c' := 1) rfl ?_
  refine hw_loopc (α := Nat × List Int × Nat) (fun x c => ⟨51, [(0, .v (ptsV e)), (3, .v (.os 8001 x.2.2 0 x.2.1.length)), (7, .v (ptsV e)), (8, .v (intV e.length)), (9, .v (intV x.1))], [(8001, ⟨x.2.2, x.2.1.length, 1, 3, 0, kidsF x.2.1⟩)], c⟩) (fun x => x.1 ≤ e.length ∧ x.2.1.length ≤ x.1 ∧ rightL e.length x.1 (e.drop x.1) x.2.1 = rightV e) (fun x => e.length - x.1) ((0, [], 0)) (by exact ⟨Nat.zero_le _, Nat.zero_le _, rfl⟩) (hsub_of rfl (Nat.le_refl _) (TmSub.cons rfl (Sb.refl _) (TmSub.cons rfl (Sb.refl _) (TmSub.cons rfl (Sb.refl _) (TmSub.cons rfl (Sb.refl _) (TmSub.cons rfl (Sb.refl _) TmSub.nil))))) (HpSub.cons rfl (OSub.refl _) HpSub.nil)) (fun x c hx NhL5 hL5 => ?_)
  revert hx hL5; obtain ⟨i, op, g⟩ := x; intro hx hL5; dsimp only at hx hL5 ⊢
  obtain ⟨hi, hop, hR⟩ := hx
  refine srg fun N h6 => ?_
  refine st0 (hop_lss rfl rfl) rfl rfl ?_
  refine snl h6 ?_
  refine hw_seq (fun Nh7 h7 => ?_)
  refine hw_cond _ rfl (fun hc0 => ?_) (fun hc0 => ?_)
  · have hr0 := hc0; (try simp only [hcs, Int.reduceToNat] at hc0)
    have hil : i < e.length := (by omega); have hkb := he.2 i hil; have hst := right_step (n := e.length) (op := op) hil
    refine hw_skip ?_
    refine h7 _ ?_
    refine hw_seq (fun Nh8 h8 => ?_)
    refine hw_block ?_
    refine srg fun N h9 => ?_
    refine stm rfl rfl rfl ?_
    refine st0 (hop_ia_sl el_49 rfl rfl (by omega) (by omega) (nb rfl)) rfl rfl ?_
    refine st0 (HOp.val (v' := ptH (e.getD i default)) (hop_load_fp ty_75 rfl (nb rfl) (fun h => (by cases h))) (rfl)) rfl rfl ?_
    refine hm_1 5 (hop_alloc (id := 5) (sz := 5) zc_75 rfl rfl (nb rfl) (nb rfl)) rfl rfl pre0 rfl rfl (c' := c + 1) rfl ?_
    refine sta rfl rfl rfl ?_
    refine hm_s1 (hol_storeW ty_75 rfl rfl rfl rfl) rfl rfl (pre1 rfl) (c' := c + 2) rfl ?_
    refine snl h9 ?_
    refine srg fun N h10 => ?_
    refine stm rfl rfl rfl ?_
    refine st0 (hop_len_os (T := 44) rfl (elOf_spec el_44).1 rfl) rfl rfl ?_
    refine st0 (hop_fa fd_75_4 rfl) rfl rfl ?_
    refine st1 (HOp.val (v' := kidsV (e.getD i default).kids) (hol_load ty_44 rfl (nb rfl) (nb rfl) (fun h => (by rfl))) (rfl)) rfl rfl rfl ?_
    refine st0 (hop_len_sl (T := 44) rfl (elOf_spec el_44).1 rfl) rfl rfl ?_
    refine st0 (hop_subi rfl rfl rfl (by omega) (by omega)) rfl rfl ?_
    refine sta rfl rfl rfl ?_
    refine snl h10 ?_
    refine hw_seq (fun Nh11 h11 => ?_)
    refine hw_seq (fun Nh12 h12 => ?_)
    refine hd_start ?_
    refine hd_q 20 (HOp.val (v' := ptH (e.getD i default)) (hol_load ty_75 rfl (nb rfl) (nb rfl) (fun h => (by cases h))) (rfl)) rfl rfl (pre1 rfl) rfl rfl (k' := 1) rfl ?_
    refine hd_q 21 (hop_call0 (xs := [_]) (alone_h (e.getD i default) (by omega) (by omega)) ⟨rfl, trivial⟩ ⟨(Fz.eq rfl), trivial⟩) rfl rfl pre0 rfl rfl (k' := 2) rfl ?_
    refine hd_q 22 (hop_not rfl) rfl rfl pre0 rfl rfl (k' := 3) rfl ?_
    refine hd_q 23 (hop_move rfl) rfl rfl pre0 rfl rfl (k' := 4) rfl ?_
    refine hd_g 24 3 23 false _ (fun hb => hop_move rfl) rfl rfl rfl rfl pre0 rfl rfl rfl (k' := 5) rfl ?_
    refine hd_g 25 3 23 false _ (fun hb => hop_lss rfl rfl) rfl rfl rfl rfl pre0 rfl rfl rfl (k' := 6) rfl ?_
    refine hd_p 26 (hstep_or _ _ rfl rfl rfl) rfl rfl rfl (k' := 7) rfl ?_
    refine hd_q 27 (hop_move rfl) rfl rfl pre0 rfl rfl (k' := 8) rfl ?_
    refine hd_g 28 7 27 false _ (fun hb => hop_move rfl) rfl rfl rfl rfl pre0 rfl rfl rfl (k' := 9) rfl ?_
    refine hd_g 29 7 27 false _ (fun hb => hop_move rfl) rfl rfl rfl rfl pre0 rfl rfl rfl (k' := 10) rfl ?_
    refine hd_g 30 7 27 false _ (fun hb => HOp.val (v' := .os 8001 g (op.length - (e.getD i default).kids.length) (e.getD i default).kids.length) (hol_cut_os el_44 rfl (.inr ⟨_, _, rfl, rfl⟩) (.inl ⟨rfl, rfl⟩) (by (simp at hb; first | omega | (dsimp only; omega) | (simp <;> omega))) (by (simp at hb; first | omega | (dsimp only; omega) | (simp <;> omega))) (by (simp at hb; first | omega | (dsimp only; omega) | (simp <;> omega)))) (os_eq (by simp at hb; omega) (by simp at hb; omega))) rfl rfl rfl rfl (pre1 rfl) rfl rfl rfl (k' := 11) rfl ?_
    refine hd_g 31 7 27 false _ (fun hb => hop_fa fd_75_4 rfl) rfl rfl rfl rfl pre0 rfl rfl rfl (k' := 12) rfl ?_
    refine hd_g 32 7 27 false _ (fun hb => HOp.val (v' := kidsV (e.getD i default).kids) (hol_load ty_44 rfl (nb rfl) (nb rfl) (fun h => (by rfl))) (rfl)) rfl rfl rfl rfl (pre1 rfl) rfl rfl rfl (k' := 13) rfl ?_
    refine hd_g 33 7 27 false _ (fun hb => hop_funR (xs := [_, _]) (pre := [(8001, _)]) (equal_h g (op.length - (e.getD i default).kids.length) (e.getD i default).kids.length op (e.getD i default).kids (by omega) (by omega) (right_g hb)) ⟨rfl, ⟨rfl, trivial⟩⟩) rfl rfl rfl rfl (preC rfl pre0) rfl rfl rfl (k' := 14) rfl ?_
    refine hd_g 34 7 27 false _ (fun hb => hop_not rfl) rfl rfl rfl rfl pre0 rfl rfl rfl (k' := 15) rfl ?_
    refine hd_p 35 (hstep_or _ _ rfl rfl rfl) rfl rfl rfl (k' := 16) rfl ?_
    refine hd_nil (by kernel_rfl) (by kernel_rfl) (c' := c + 18) rfl ?_
    refine h12 _ ?_
    refine hw_cond _ rfl (fun hc1 => ?_) (fun hc1 => ?_)
    · have hr1 := hc1; (try simp only [hcs, Int.reduceToNat] at hc1)
      have hf := right_no hr1; rw [hf, Bool.false_and] at hst
      refine srg fun N h13 => ?_
      refine sta rfl rfl rfl ?_
      refine snl h13 ?_
      refine hw_ret ?_
      refine hq_then_ret ?_
      refine hq_block_ret ?_
      refine hq_then_ret ?_
      refine hq_then_ret ?_
      refine hq_block_ret ?_
      refine hq_then_ret ?_
      refine hq_ret1 rfl (rval_tmp rfl) [] rfl pre0 ?_
      rw [← hR, hst]; exact .imm _
    have hr1 := hc1; (try simp only [hcs, Int.reduceToNat] at hc1)
    obtain ⟨hf, hkl⟩ := right_yes hr1; rw [hf, Bool.true_and] at hst
    refine hw_skip ?_
    refine h11 _ ?_
    refine hw_region ?_
    refine stm rfl rfl rfl ?_
    refine stm rfl rfl rfl ?_
    refine st1 (hol_cut_os el_44 rfl (.inl ⟨rfl, rfl⟩) (.inr ⟨_, _, rfl, rfl⟩) (by omega) (by omega) (by omega)) rfl rfl rfl ?_
    refine stm rfl rfl rfl ?_
    refine hm_1 40 (hop_buildSlice (id := 40) (hs := [_]) ei_44 (nb rfl) rfl (nb rfl) ⟨rfl, rfl, rfl, rfl, trivial⟩) rfl rfl pre0 rfl rfl (c' := c + 19) rfl ?_
    refine hm_1 41 (hol_append ei_44 (nb rfl) rfl (by omega) (nb rfl) (srl_os0 rfl (nb rfl)) (by omega) rfl) rfl rfl (preC rfl (pre1 rfl)) rfl rfl (c' := c + 20) rfl ?_
    refine sta rfl rfl rfl ?_
    refine hseq_nil ?_
    refine hq_block ?_
    refine h8 _ ?_
    refine hw_region ?_
    refine st0 (hop_addi rfl rfl rfl (by omega) (by omega)) rfl rfl ?_
    refine stm rfl rfl rfl ?_
    refine hseq_nil ?_
    exact hL5 ((i + 1, op.take (op.length - (e.getD i default).kids.length) ++ [(i : Int)], c + 19)) _ _ (by (try dsimp only); exact ⟨by omega, by rw [List.length_append, List.length_take]; show _ + 1 ≤ _; omega, by rw [← hst]; exact hR⟩) (by (try dsimp only); omega) (hsub_of rfl (Nat.le_refl _) (TmSub.cons rfl (Sb.refl _) (TmSub.cons rfl (by dsimp only; exact sb_os (by rw [List.length_append, List.length_take]; show _ + 1 = _ + 1; omega)) (TmSub.cons rfl (Sb.refl _) (TmSub.cons rfl (Sb.refl _) (TmSub.cons rfl (Sb.refl _) TmSub.nil))))) (HpSub.cons rfl (by dsimp only; exact osub_cut (k := op.length - (e.getD i default).kids.length) (r := (i : Int)) (by omega) (by omega) (fun _ => rfl)) HpSub.nil))
  have hr0 := hc0; (try simp only [hcs, Int.reduceToNat] at hc0)
  refine hw_exit ?_
  refine hq_then_exit ?_
  refine hq_then_exit ?_
  refine hq_block_here ?_
  refine h3 _ ?_
  refine srg fun N h14 => ?_
  refine stm rfl rfl rfl ?_
  refine st0 (hop_len_os (T := 44) rfl (elOf_spec el_44).1 rfl) rfl rfl ?_
  refine st0 (hop_eql rfl rfl) rfl rfl ?_
  refine stm rfl rfl rfl ?_
  refine stg 46 (fun hb => hop_move rfl) rfl rfl rfl rfl rfl ?_
  refine stg 46 (fun hb => hop_len_sl (T := 49) rfl (elOf_spec el_49).1 rfl) rfl rfl rfl rfl rfl ?_
  refine stg 46 (fun hb => hop_eql rfl rfl) rfl rfl rfl rfl rfl ?_
  refine hq_p 50 (hstep_or _ _ rfl rfl rfl) rfl rfl rfl ?_
  refine sta rfl rfl rfl ?_
  refine hseq_nilU (by rfl) (by simp only [dropUn, slots]; exact rfl) ?_
  refine h14 _ ?_
  refine hw_ret ?_
  refine hq_ret1 rfl (rval_tmp rfl) [] rfl pre0 ?_
  rw [← hR, List.drop_eq_nil_of_le (by omega)]; exact fz_bool (by simp only [rightL, beq_d, int_1, int_0])
end Go.Proofs.YtmcchhmgchgaaaaDoor

namespace Go.Proofs.YtmcchhmgchgaaaaDoor
set_option linter.unusedSimpArgs false
set_option linter.unusedVariables false

def T.kind : T → Int
  | .name _ => 1
  | .times _ _ _ => 4
  | .many k _ => k
/-- May a tree stand so within another one? (p: the other one's kind) -/
def inB (p k : Int) : Bool := if p = 3 then decide (k = 3) else if p = 2 then decide (k = 2) || decide (k = 3) else !decide (k = 1)
def wrapS (b : Bool) (l : List Sg) : List Sg := if b = true then [⟨2, 0, 0, 0, []⟩] ++ l ++ [⟨3, 0, 0, 0, []⟩] else l
def orS (k : Int) (f : Bool) : List Sg := if k = 3 ∧ f = false then [⟨4, 0, 0, 0, []⟩] else []
mutual
/-- A tree's signs, without brackets. -/
def T.sig : T → List Sg
  | .name s => [⟨1, 0, 0, 0, s⟩]
  | .times lo hi t => wrapS (inB 4 t.kind) (T.sig t) ++ [⟨5, 0, lo, hi, []⟩]
  | .many k ts => T.sigL k true ts
def T.sigL (k : Int) : Bool → List T → List Sg
  | _, [] => []
  | f, t :: ts => orS k f ++ wrapS (inB k t.kind) (T.sig t) ++ T.sigL k false ts
end
theorem wrap_len (b : Bool) (l : List Sg) : (wrapS b l).length ≤ l.length + 2 ∧ l.length ≤ (wrapS b l).length := by
  unfold wrapS; split
  · simp; omega
  · omega
theorem or_len (k : Int) (f : Bool) : (orS k f).length ≤ 1 := by unfold orS; split <;> simp
theorem T.sigL_snoc (k : Int) : ∀ (ts : List T) (f : Bool) (t : T), T.sigL k f (ts ++ [t]) = T.sigL k f ts ++ orS k (f && decide (ts = [])) ++ wrapS (inB k t.kind) t.sig
  | [], f, t => by simp [T.sigL]
  | x :: ts, f, t => by simp [T.sigL, T.sigL_snoc k ts false t]
mutual
theorem sig_len : ∀ t : T, t.ok = true → t.sig.length + 3 ≤ 4 * t.size ∧ 0 < t.sig.length
  | .name s, _ => by simp [T.sig, T.size]
  | .times lo hi t, h => by
    simp only [T.ok, Bool.and_eq_true] at h
    have a := sig_len t h.2
    have b := wrap_len (inB 4 t.kind) t.sig
    simp only [T.sig, T.size, List.length_append, List.length_singleton]; omega
  | .many k ts, h => by
    simp only [T.ok, Bool.and_eq_true, decide_eq_true_eq] at h
    have a := sigL_len k ts h.2 true
    have b := sigL_pos k ts h.2 (by omega)
    simp only [T.sig, T.size]
    simp only [if_true] at a
    exact ⟨by omega, b⟩
theorem sigL_len (k : Int) : ∀ ts : List T, T.okL ts = true → ∀ f, (T.sigL k f ts).length + (if f = true then min 1 ts.length else 0) ≤ 4 * T.sizeL ts
  | [], _, f => by simp [T.sigL, T.sizeL]
  | t :: ts, h, f => by
    simp only [T.okL, Bool.and_eq_true] at h
    have a := sig_len t h.1
    have b := wrap_len (inB k t.kind) t.sig
    have d := sigL_len k ts h.2 false
    have e := or_len k f
    simp only [Bool.false_eq_true, if_false] at d
    simp only [T.sigL, T.sizeL, List.length_append, List.length_cons]
    cases f with
    | true => have : (orS k true).length = 0 := by unfold orS; rw [if_neg (by simp)]; rfl
              simp only [if_true]; omega
    | false => simp only [Bool.false_eq_true, if_false]; omega
theorem sigL_pos (k : Int) : ∀ ts : List T, T.okL ts = true → 0 < ts.length → 0 < (T.sigL k true ts).length
  | [], _, h => absurd h (by simp)
  | t :: ts, h, _ => by
    simp only [T.okL, Bool.and_eq_true] at h
    have a := sig_len t h.1
    have b := wrap_len (inB k t.kind) t.sig
    simp only [T.sigL, List.length_append]; omega
end
def AtP (e : List Pt) (b : Nat) (l : List Pt) : Prop := ∃ u v, e = u ++ l ++ v ∧ u.length = b
theorem atP_get {e : List Pt} {b : Nat} {l : List Pt} (h : AtP e b l) {i : Nat} (hi : i < l.length) : e.getD (b + i) default = l.getD i default ∧ b + i < e.length := by
  obtain ⟨u, v, rfl, rfl⟩ := h
  refine ⟨?_, by simp only [List.length_append]; omega⟩
  rw [List.append_assoc, List.getD_eq_getElem?_getD, List.getElem?_append_right (by omega), Nat.add_sub_cancel_left, List.getElem?_append_left hi, ← List.getD_eq_getElem?_getD]
theorem atP_left {e : List Pt} {b : Nat} {l k : List Pt} (h : AtP e b (l ++ k)) : AtP e b l := by
  obtain ⟨u, v, rfl, hu⟩ := h
  exact ⟨u, k ++ v, by simp, hu⟩
theorem atP_right {e : List Pt} {b b' : Nat} {l k : List Pt} (h : AtP e b (l ++ k)) (hb : b' = b + l.length) : AtP e b' k := by
  obtain ⟨u, v, rfl, hu⟩ := h
  exact ⟨u ++ l, v, by simp, by rw [List.length_append, hu, hb]⟩
theorem flatL_cut : ∀ (ts : List T) (b i : Nat), i < ts.length → ∃ v, T.flatL b ts = T.flatL b (ts.take i) ++ T.flat (b + T.sizeL (ts.take i)) (ts.getD i default) ++ v
  | t :: ts, b, 0, _ => ⟨T.flatL (b + t.size) ts, by simp [T.flatL, T.sizeL]⟩
  | t :: ts, b, i + 1, h => by
    obtain ⟨v, hv⟩ := flatL_cut ts (b + t.size) i (by simpa using h)
    refine ⟨v, ?_⟩
    simp only [T.flatL, List.take_succ_cons, T.sizeL, hv, List.getD_cons_succ, List.append_assoc, Nat.add_assoc]
theorem at_kid {e : List Pt} {b i : Nat} {ts : List T} {k : Int} (h : AtP e b (T.flat b (.many k ts))) (hi : i < ts.length) : AtP e (b + T.sizeL (ts.take i)) (T.flat (b + T.sizeL (ts.take i)) (ts.getD i default)) := by
  obtain ⟨v, hv⟩ := flatL_cut ts b i hi
  simp only [T.flat, hv] at h
  have h := atP_left (atP_left h)
  exact atP_right h (by rw [T.flatL_len])
theorem roots_get : ∀ (ts : List T) (b i : Nat), i < ts.length → (rootsL b ts).getD i 0 = T.root (b + T.sizeL (ts.take i)) (ts.getD i default)
  | t :: ts, b, 0, _ => by simp [rootsL, T.root, T.sizeL]
  | t :: ts, b, i + 1, h => by
    have := roots_get ts (b + t.size) i (by simpa using h)
    simp only [rootsL, List.getD_cons_succ, List.take_succ_cons, T.sizeL, this, Nat.add_assoc]
/-- A tree's own part. -/
def T.top (b : Nat) : T → Pt
  | .name s => ⟨1, 0, 0, s, []⟩
  | .times lo hi t => ⟨4, lo, hi, [], [((b + t.size : Nat) : Int) - 1]⟩
  | .many k ts => ⟨k, 0, 0, [], rootsL b ts⟩
theorem top_kind (b : Nat) (t : T) : (t.top b).kind = t.kind := by cases t <;> rfl
theorem flat_top (b : Nat) (t : T) : (T.flat b t).getD (t.size - 1) default = t.top b := by
  cases t with
  | name s => rfl
  | times lo hi t => simp only [T.flat, T.size, T.top, Nat.add_sub_cancel]; rw [← T.flat_len b t]; exact getD_snoc _ _ _
  | many k ts => simp only [T.flat, T.size, T.top, Nat.add_sub_cancel]; rw [← T.flatL_len b ts]; exact getD_snoc _ _ _
theorem at_top {e : List Pt} {b : Nat} {t : T} (h : AtP e b (T.flat b t)) : e.getD (b + t.size - 1) default = t.top b ∧ b + t.size ≤ e.length := by
  have hs := t.size_pos
  have := atP_get h (i := t.size - 1) (by rw [T.flat_len]; omega)
  rw [flat_top, show b + (t.size - 1) = b + t.size - 1 by omega] at this
  exact ⟨this.1, by omega⟩
def Like (x y : Sg) : Prop := x.kind = y.kind ∧ x.low = y.low ∧ x.high = y.high ∧ x.name = y.name
def AtS (l : List Sg) (p : Nat) (k : List Sg) : Prop := p + k.length ≤ l.length ∧ ∀ i, i < k.length → Like (l.getD (p + i) default) (k.getD i default)
theorem atS_left {l : List Sg} {p : Nat} {k k' : List Sg} (h : AtS l p (k ++ k')) : AtS l p k :=
  ⟨by have := h.1; rw [List.length_append] at this; omega, fun i hi => by have := h.2 i (by rw [List.length_append]; omega); rwa [getD_app hi] at this⟩
theorem getD_right {α : Type} {k k' : List α} {i : Nat} {d : α} : (k ++ k').getD (k.length + i) d = k'.getD i d := by
  rw [List.getD_eq_getElem?_getD, List.getElem?_append_right (by omega), Nat.add_sub_cancel_left, ← List.getD_eq_getElem?_getD]
theorem atS_right {l : List Sg} {p : Nat} {k k' : List Sg} (h : AtS l p (k ++ k')) : AtS l (p + k.length) k' :=
  ⟨by have := h.1; rw [List.length_append] at this; omega, fun i hi => by have := h.2 (k.length + i) (by rw [List.length_append]; omega); rwa [getD_right, ← Nat.add_assoc] at this⟩
theorem atS_kd {l : List Sg} {p : Nat} {x : Sg} {k : List Sg} (h : AtS l p (x :: k)) : kd l p = x.kind := by
  have := h.2 0 (by simp)
  have h1 := h.1
  rw [List.length_cons] at h1
  rw [kd_in (by omega)]; exact this.1
theorem atS_one {l : List Sg} {p : Nat} {x : Sg} {k : List Sg} (h : AtS l p (x :: k)) : Like (l.getD p default) x := h.2 0 (by simp)
@[reducible] def lvB : T → Nat
  | .name _ => 0
  | .times _ _ _ => 1
  | .many k _ => if k = 2 then 2 else 3
/-- Tells of a tree that its signs are read as it. -/
def SigOk (t : T) : Prop := ∀ (l : List Sg) (p : Nat), AtS l p t.sig → kd l (p + t.sig.length) ≠ 5 → Seg l (lvB t) p (p + t.sig.length) t
def AtomOk (b : Bool) (t : T) : Prop := ∀ (l : List Sg) (p : Nat), AtS l p (wrapS b t.sig) → Seg l 0 p (p + (wrapS b t.sig).length) t
theorem up3 {l : List Sg} {v p q : Nat} {t : T} (h : Seg l v p q t) (h5 : kd l q ≠ 5) : Seg l 3 p q t := by
  have e1 : ∀ {p q t}, Seg l 1 p q t → Seg l 3 p q t := fun h => .choice1 _ _ _ (.row1 _ _ _ h)
  match v, h with
  | 0, h => exact e1 (.item _ _ _ h h5)
  | 1, h => exact e1 h
  | 2, h => exact .choice1 _ _ _ h
  | 3, h => exact h
  | v + 4, h => nomatch h
theorem atom_wrap {t : T} (h : SigOk t) : AtomOk true t := by
  intro l p hp
  simp only [wrapS, if_true] at hp ⊢
  have h2 := atS_kd (by simpa using hp)
  have hb := atS_right (atS_left hp)
  have h3 := atS_right hp
  have k3 := atS_kd h3
  rw [List.length_append, List.length_singleton] at h3 k3
  have := h l (p + 1) hb (by rw [show p + 1 + t.sig.length = p + (1 + t.sig.length) by omega, k3]; decide)
  have g := up3 this (by rw [show p + 1 + t.sig.length = p + (1 + t.sig.length) by omega, k3]; decide)
  have := Seg.group p (p + 1 + t.sig.length) t h2 g (by rw [show p + 1 + t.sig.length = p + (1 + t.sig.length) by omega]; exact k3)
  rw [show p + 1 + t.sig.length + 1 = p + ([⟨2, 0, 0, 0, []⟩] ++ t.sig ++ [⟨3, 0, 0, 0, []⟩] : List Sg).length by simp; omega] at this
  exact this
theorem atom_name (s : List UInt8) : AtomOk false (.name s) := by
  intro l p hp
  have h1 := atS_kd (x := ⟨1, 0, 0, 0, s⟩) (k := []) hp
  have h2 := atS_one (x := ⟨1, 0, 0, 0, s⟩) (k := []) hp
  have := Seg.name p h1
  rw [h2.2.2.2] at this
  exact this
theorem in4 {t : T} (h : t.ok = true) : inB 4 t.kind = true ∨ ∃ s, t = .name s := by
  cases t with
  | name s => exact .inr ⟨s, rfl⟩
  | times _ _ _ => left; rfl
  | many k ts =>
    simp only [T.ok, Bool.and_eq_true, Bool.or_eq_true, decide_eq_true_eq] at h
    left; show inB 4 k = true; unfold inB; rw [if_neg (by decide), if_neg (by decide), decide_eq_false (by omega)]; rfl
theorem raise {l : List Sg} {v m p q : Nat} {t : T} (h : Seg l v p q t) (hm : v ≤ m) (hm1 : 1 ≤ m) (hm3 : m ≤ 3) (h5 : kd l q ≠ 5) : Seg l m p q t := by
  have e1 : Seg l 1 p q t → Seg l m p q t := fun h => by
    match m, hm1, hm3 with
    | 1, _, _ => exact h
    | 2, _, _ => exact .row1 _ _ _ h
    | 3, _, _ => exact .choice1 _ _ _ (.row1 _ _ _ h)
  match v, h, hm with
  | 0, h, _ => exact e1 (.item _ _ _ h h5)
  | 1, h, _ => exact e1 h
  | 2, h, hm =>
    match m, hm, hm3 with
    | 2, _, _ => exact h
    | 3, _, _ => exact .choice1 _ _ _ h
  | 3, h, hm =>
    match m, hm, hm3 with
    | 3, _, _ => exact h
  | v + 4, h, _ => nomatch h
theorem sigL_cut (k : Int) : ∀ (ts : List T) (f : Bool) (i : Nat), i < ts.length → T.sigL k f ts = T.sigL k f (ts.take i) ++ (orS k (f && decide (i = 0)) ++ wrapS (inB k (ts.getD i default).kind) (ts.getD i default).sig) ++ T.sigL k false (ts.drop (i + 1))
  | t :: ts, f, 0, _ => by simp [T.sigL]
  | t :: ts, f, i + 1, h => by
    have := sigL_cut k ts false i (by simpa using h)
    simp only [T.sigL, List.take_succ_cons, List.getD_cons_succ, List.drop_succ_cons]
    rw [this]
    simp
theorem sigL_take (k : Int) (ts : List T) (i : Nat) (h : i < ts.length) : T.sigL k true (ts.take (i + 1)) = T.sigL k true (ts.take i) ++ (orS k (decide (i = 0)) ++ wrapS (inB k (ts.getD i default).kind) (ts.getD i default).sig) := by
  have e : ts.take (i + 1) = ts.take i ++ [ts.getD i default] := by
    rw [List.take_add_one, List.getD_eq_getElem?_getD, List.getElem?_eq_getElem h]; rfl
  rw [e, T.sigL_snoc]
  have : decide (ts.take i = []) = decide (i = 0) := decide_eq_decide.2 (by
    rw [List.take_eq_nil_iff]
    constructor
    · rintro (h1 | h1)
      · exact h1
      · subst h1; exact absurd h (Nat.not_lt_zero _)
    · exact .inl)
  rw [this]
  simp
mutual
theorem sig_head : ∀ t : T, t.ok = true → ∃ x r, t.sig = x :: r ∧ (x.kind = 1 ∨ x.kind = 2)
  | .name s, _ => ⟨_, _, rfl, .inl rfl⟩
  | .times lo hi t, h => by
    simp only [T.ok, Bool.and_eq_true] at h
    simp only [T.sig]
    obtain ⟨x, r, e, hx⟩ := sig_head t h.2
    unfold wrapS
    split
    · exact ⟨_, _, rfl, .inr rfl⟩
    · rw [e]; exact ⟨x, _, rfl, hx⟩
  | .many k [], h => by simp [T.ok] at h
  | .many k (t :: ts), h => by
    simp only [T.ok, T.okL, Bool.and_eq_true] at h
    obtain ⟨x, r, e, hx⟩ := sig_head t h.2.1
    simp only [T.sig, T.sigL]
    have : orS k true = [] := by unfold orS; rw [if_neg (by simp)]
    rw [this]
    unfold wrapS
    split
    · exact ⟨_, _, rfl, .inr rfl⟩
    · rw [e]; exact ⟨x, _, rfl, hx⟩
end
theorem wrap_head (b : Bool) {t : T} (h : t.ok = true) : ∃ x r, wrapS b t.sig = x :: r ∧ (x.kind = 1 ∨ x.kind = 2) := by
  obtain ⟨x, r, e, hx⟩ := sig_head t h
  unfold wrapS
  split
  · exact ⟨_, _, rfl, .inr rfl⟩
  · exact ⟨x, r, e, hx⟩
theorem next5 {l : List Sg} {k : Int} {q : Nat} {ts : List T} (hok : T.okL ts = true) (h : AtS l q (T.sigL k false ts)) (hn : ts = [] → kd l q ≠ 5) : kd l q ≠ 5 := by
  match ts, hok, h, hn with
  | [], _, _, hn => exact hn rfl
  | t :: ts, hok, h, _ =>
    simp only [T.okL, Bool.and_eq_true] at hok
    simp only [T.sigL] at h
    unfold orS at h
    by_cases h3 : k = 3 ∧ false = false
    · rw [if_pos h3] at h
      rw [atS_kd (by simpa using h)]; show (4 : Int) ≠ 5; decide
    · rw [if_neg h3, List.nil_append] at h
      obtain ⟨x, r, e, hx⟩ := wrap_head (inB k t.kind) hok.1
      rw [e] at h
      rw [atS_kd (by simpa using h)]
      rcases hx with hx | hx <;> rw [hx] <;> decide
theorem okL_drop : ∀ (ts : List T) (i : Nat), T.okL ts = true → T.okL (ts.drop i) = true
  | [], i, _ => by simp [T.okL]
  | t :: ts, 0, h => h
  | t :: ts, i + 1, h => by
    simp only [T.okL, Bool.and_eq_true] at h
    exact okL_drop ts i h.2
/-- A kid, at its place. -/
theorem kid_seg {l : List Sg} {k : Int} {p i m : Nat} {ts : List T} (hm : m = if k = 2 then 1 else 2) (hk : k = 2 ∨ k = 3) (hok : T.okL ts = true) (hS : ∀ i, i < ts.length → SigOk (ts.getD i default)) (hA : AtS l p (T.sigL k true ts)) (hn : kd l (p + (T.sigL k true ts).length) ≠ 5) (hi : i < ts.length) :
    Seg l m (p + (T.sigL k true (ts.take i)).length + (orS k (decide (i = 0))).length) (p + (T.sigL k true (ts.take (i + 1))).length) (ts.getD i default) ∧ AtS l (p + (T.sigL k true (ts.take (i + 1))).length) (T.sigL k false (ts.drop (i + 1))) := by
  have hcut := sigL_cut k ts true i hi
  rw [Bool.true_and] at hcut
  have hok1 := okL_at hok i hi
  have hcut2 : T.sigL k true ts = T.sigL k true (ts.take (i + 1)) ++ T.sigL k false (ts.drop (i + 1)) := by rw [sigL_take k ts i hi]; exact hcut
  have hrest : AtS l (p + (T.sigL k true (ts.take (i + 1))).length) (T.sigL k false (ts.drop (i + 1))) := atS_right (hcut2 ▸ hA)
  have h5 : kd l (p + (T.sigL k true (ts.take (i + 1))).length) ≠ 5 := next5 (okL_drop ts (i + 1) hok) hrest (fun he => by
    rw [hcut2, he] at hn
    simpa [T.sigL] using hn)
  refine ⟨?_, hrest⟩
  have hW : AtS l (p + (T.sigL k true (ts.take i)).length + (orS k (decide (i = 0))).length) (wrapS (inB k (ts.getD i default).kind) (ts.getD i default).sig) := atS_right (atS_right (atS_left (hcut ▸ hA)))
  have hq : p + (T.sigL k true (ts.take (i + 1))).length = p + (T.sigL k true (ts.take i)).length + (orS k (decide (i = 0))).length + (wrapS (inB k (ts.getD i default).kind) (ts.getD i default).sig).length := by
    rw [sigL_take k ts i hi]; simp only [List.length_append]; omega
  rw [hq] at h5 ⊢
  cases hb : inB k (ts.getD i default).kind with
  | true =>
    rw [hb] at hW h5
    exact raise (atom_wrap (hS i hi) l _ hW) (Nat.zero_le _) (by rw [hm]; split <;> decide) (by rw [hm]; split <;> decide) h5
  | false =>
    rw [hb] at hW h5
    have hs := hS i hi l _ (by simpa [wrapS] using hW) (by simpa [wrapS] using h5)
    refine raise (v := lvB (ts.getD i default)) (by simpa [wrapS] using hs) ?_ (by rw [hm]; split <;> decide) (by rw [hm]; split <;> decide) (by simpa [wrapS] using h5)
    generalize ts.getD i default = t at hb hok1
    cases t with
    | name s => exact Nat.zero_le _
    | times _ _ _ => show 1 ≤ m; rw [hm]; split <;> decide
    | many k' ts' =>
      simp only [T.ok, Bool.and_eq_true, Bool.or_eq_true, decide_eq_true_eq] at hok1
      show (if k' = 2 then 2 else 3) ≤ m
      have hb : inB k k' = false := hb
      unfold inB at hb
      rcases hk with hk | hk
      · subst hk
        rw [if_neg (by decide), if_pos rfl] at hb
        simp at hb
        omega
      · subst hk
        rw [if_pos rfl] at hb
        have := of_decide_eq_false hb
        rw [if_pos (by omega), hm]; decide
mutual
theorem sig_ok : ∀ t : T, t.ok = true → SigOk t
  | .name s, _ => fun l p hp hn => atom_name s l p hp
  | .times lo hi t, h => fun l p hp hn => by
    simp only [T.ok, Bool.and_eq_true] at h
    have A : AtomOk (inB 4 t.kind) t := by
      rcases in4 h.2 with hb | ⟨s, rfl⟩
      · rw [hb]; exact atom_wrap (sig_ok t h.2)
      · exact atom_name s
    simp only [T.sig] at hp ⊢
    have hs := A l p (atS_left hp)
    have hr := atS_right hp
    have h5 := atS_kd hr
    have hlk := atS_one hr
    have := Seg.times p _ t hs h5
    rw [hlk.2.1, hlk.2.2.1] at this
    rw [List.length_append, List.length_singleton, ← Nat.add_assoc]
    exact this
  | .many k ts, h => fun l p hp hn => by
    simp only [T.ok, Bool.and_eq_true, Bool.or_eq_true, decide_eq_true_eq] at h
    have hS := sig_okL ts h.2
    simp only [T.sig] at hp hn ⊢
    have key := fun (m : Nat) (hm : m = if k = 2 then 1 else 2) (i : Nat) (hi : i < ts.length) => kid_seg (i := i) hm h.1.1 h.2 hS hp hn hi
    have hall : (T.sigL k true (ts.take ts.length)) = T.sigL k true ts := by rw [List.take_length]
    rcases h.1.1 with hk | hk
    · subst hk
      have o0 : ∀ b, (orS 2 b).length = 0 := fun b => by unfold orS; rw [if_neg (by simp)]; rfl
      refine .row p _ ts (fun i => p + (T.sigL 2 true (ts.take i)).length) h.1.2 (by simp [T.sigL]) (by simp only [hall]) (fun i hi => ?_)
      have := (key 1 rfl i hi).1
      rw [o0, Nat.add_zero] at this
      exact this
    · subst hk
      refine .choice p _ ts (fun i => p + (T.sigL 3 true (ts.take i)).length + (orS 3 (decide (i = 0))).length) (fun i => p + (T.sigL 3 true (ts.take (i + 1))).length) h.1.2 (by simp [T.sigL, orS]) (by simp only [show ts.length - 1 + 1 = ts.length by omega, hall]) (fun i hi => (key 2 rfl i hi).1) (fun i hi => ?_)
      have hr := (key 2 rfl i (by omega)).2
      have hd : ts.drop (i + 1) = ts.getD (i + 1) default :: ts.drop (i + 1 + 1) := by
        rw [List.getD_eq_getElem?_getD, List.getElem?_eq_getElem hi, List.drop_eq_getElem_cons hi]; rfl
      rw [hd] at hr
      simp only [T.sigL] at hr
      have o1 : orS 3 false = [⟨4, 0, 0, 0, []⟩] := rfl
      rw [o1] at hr
      refine ⟨atS_kd (by simpa using hr), ?_⟩
      show p + _ + (orS 3 (decide (i + 1 = 0))).length = _
      rw [decide_eq_false (by omega)]; rfl
theorem sig_okL : ∀ ts : List T, T.okL ts = true → ∀ i, i < ts.length → SigOk (ts.getD i default)
  | [], _, i, hi => absurd hi (Nat.not_lt_zero _)
  | t :: ts, h, i, hi => by
    simp only [T.okL, Bool.and_eq_true] at h
    cases i with
    | zero => exact sig_ok t h.1
    | succ i => have := sig_okL ts h.2 i (by simpa using hi); simpa using this
end
theorem sig_seg {l : List Sg} {t : T} (h : t.ok = true) (hl : l.length = t.sig.length) (hL : ∀ i, i < l.length → Like (l.getD i default) (t.sig.getD i default)) : Seg l 3 0 l.length t := by
  have h5 : kd l (0 + t.sig.length) ≠ 5 := by rw [kd_out (by omega)]; decide
  have := sig_ok t h l 0 ⟨by omega, fun i hi => by rw [Nat.zero_add]; exact hL i (by omega)⟩ h5
  rw [hl]
  simpa using up3 this h5
end Go.Proofs.YtmcchhmgchgaaaaDoor

namespace Go.Proofs.YtmcchhmgchgaaaaDoor
set_option linter.unusedSimpArgs false
set_option linter.unusedVariables false
set_option maxRecDepth 100000
set_option maxHeartbeats 4000000
open Go.RowKit

@[reducible] def sgsO (g : Nat) (l : List Sg) : HObj := ⟨g, l.length, 5, 108, 0, sgsF l⟩
@[reducible] def shF (e : List Pt) (g2 n : Nat) : Nat → Nat → HV := fun _ j => match j with | 0 => ptsV e | _ => .os 9002 g2 0 n
@[reducible] def shO (g : Nat) (e : List Pt) (g2 n : Nat) : HObj := ⟨g, 1, 2, 88, 0, shF e g2 n⟩
@[reducible] def LayP (e : List Pt) (g : Nat) (o : List Sg) : HEnd → List (Nat × HObj) → Nat → Prop := RetP (fun (_ : Nat) _ => True) (fun _ => .tup 0 fun _ => default) (fun g' => [(9001, shO g e g' o.length), (9002, sgsO g' o)])
@[reducible] def LayC (e : List Pt) (b : Nat) (t : T) : Prop := ∀ c g g2 (out : List Sg) (bin : Bool), out.length + (wrapS bin t.sig).length ≤ 1000000 → HFun Tryd.prog 50 c [.pt 9001 g 0 0, intV ((b + t.size - 1 : Nat) : Int), boolV bin] [(9001, shO g e g2 out.length), (9002, sgsO g2 out)] (LayP e g (out ++ wrapS bin t.sig))
theorem okz_sh {kp sh : List (Nat × HObj)} {g g2 n n' : Nat} {e : List Pt} {o : HObj} (h : hget kp 9002 = some o) (hg : o.g = g2) (hn : n = n') : OKz kp sh (shO g e g2 n) (shO g e g2 n') := by
  subst hn; exact okz2 (.fz _ _ (show Fz sh (ptsV e) (ptsV e) from Frz.fz)) (.os _ _ _ _ _ h hg)
theorem okz_sgs {kp sh : List (Nat × HObj)} {g : Nat} {l l' : List Sg} (h : l = l') : OKz kp sh (sgsO g l) (sgsO g l') := by subst h; exact .of fun i j _ _ => .fz _ _ (sg_fz _ j)
theorem sb_sg5 {x : Sg} {f : Nat → HV} (h0 : Sb (f 0) (sgF x 0)) (h1 : Sb (f 1) (sgF x 1)) (h2 : Sb (f 2) (sgF x 2)) (h3 : Sb (f 3) (sgF x 3)) (h4 : Sb (f 4) (sgF x 4)) : ∀ j, j < 5 → Sb (f j) (sgF x j) := fun j hj => by
  match j, hj with
  | 0, _ => exact h0
  | 1, _ => exact h1
  | 2, _ => exact h2
  | 3, _ => exact h3
  | 4, _ => exact h4
theorem pt_at {e : List Pt} {j k : Nat} {x : Pt} (hj : j = k) (h : e.getD k default = x) : ldv true 5 (ptsF e j) 0 = ptH x := by subst hj; subst h; rfl
theorem kind_at {e : List Pt} {j k : Nat} {x : Int} (hj : j = k) (h : (e.getD k default).kind = x) : ldv false 1 (ptsF e j) 0 = intV x := by subst hj; subst h; rfl
theorem okz_sgn {kp sh : List (Nat × HObj)} {o o' : List Sg} {x : Sg} {g n ty : Nat} {f : Nat → Nat → HV} (ho : o ++ [x] = o') (hn : n = o.length := by rfl) (h0 : f 0 0 = intV x.kind := by rfl) (h1 : f 0 1 = intV x.at_ := by rfl) (h2 : f 0 2 = intV x.low := by rfl) (h3 : f 0 3 = intV x.high := by rfl) (h4 : f 0 4 = strV x.name := by rfl) : OKz kp sh ⟨g, n + 1, 5, ty, 0, cat n (sgsF o) f⟩ ⟨g, o'.length, 5, ty, 0, sgsF o'⟩ := by
  subst hn; subst ho
  refine ⟨rfl, by simp, rfl, rfl, Nat.le_refl _, fun i j hi hj => .fz _ _ ?_, fun h => absurd h (Nat.not_lt_zero _)⟩
  show Fz sh (cat o.length (sgsF o) f i j) (sgF ((o ++ [x]).getD i default) j)
  by_cases h' : i < o.length
  · rw [cat_lt h', getD_app h']; exact sg_fz _ j
  · have hi' : i = o.length := by simp only at hi; omega
    subst hi'
    rw [cat_ge (Nat.le_refl _), Nat.sub_self, getD_snoc]
    match j, hj with
    | 0, _ => rw [h0]; exact .imm _
    | 1, _ => rw [h1]; exact .imm _
    | 2, _ => rw [h2]; exact .imm _
    | 3, _ => rw [h3]; exact .imm _
    | 4, _ => rw [h4]; exact .imm _
theorem lay_name (e : List Pt) (b : Nat) (he : e.length ≤ 100000) (s : List UInt8) (hat : AtP e b (T.flat b (T.name s))) : LayC e b (T.name s) := by
  intro c g g2 out bin hb
  have htop := at_top hat
  have hwl := wrap_len bin (T.name s).sig
  have hw1 : bin = true → wrapS bin (T.name s).sig = [(⟨2, 0, 0, 0, []⟩ : Sg)] ++ (T.name s).sig ++ [(⟨3, 0, 0, 0, []⟩ : Sg)] := fun h => by rw [h]; rfl
  have hw0 : bin = false → wrapS bin (T.name s).sig = (T.name s).sig := fun h => by rw [h]; rfl
  have hlw1 : bin = true → (wrapS bin (T.name s).sig).length = (T.name s).sig.length + 2 := fun h => by rw [hw1 h, List.length_append, List.length_append]; show 1 + _ + 1 = _; omega
  have hsp := T.size_pos (T.name s)
  refine hfun_of Tryd.func50 rfl (by kernel_rfl) _ _ _ _ rfl 158 rfl rfl (fun X ok hX => ?_)
  refine hw_seq (fun Nh1 h1 => ?_)
  refine srg fun N h2 => ?_
  refine stm rfl rfl rfl ?_
  refine snl h2 ?_
  refine hw_cond _ rfl (fun hc0 => ?_) (fun hc0 => ?_)
  · have hr0 := hc0; (try simp only [hcs, Int.reduceToNat] at hc0)
    have ho1 : (out ++ [(⟨2, 0, 0, 0, []⟩ : Sg)]).length = out.length + 1 := (by simp); have hlw := hlw1 hc0
    refine hw_region ?_
    refine stm rfl rfl rfl ?_
    refine stm rfl rfl rfl ?_
    refine st0 (hop_nilcheck_pt rfl) rfl rfl ?_
    refine st0 (hop_fa fd_88_1 rfl) rfl rfl ?_
    refine st1 (hol_load ty_86 rfl (nb rfl) (nb rfl) (fun h => (by rfl))) rfl rfl rfl ?_
    refine st0 (hop_build (hs := [(0, 1, _)]) st_108 rfl rfl ⟨rfl, rfl, rfl, rfl, rfl, trivial⟩) rfl rfl ?_
    refine hm_1 18 (hop_buildSlice (id := 18) (hs := [_]) ei_86 (nb rfl) rfl (nb rfl) ⟨rfl, rfl, rfl, rfl, trivial⟩) rfl rfl pre0 rfl rfl (c' := c + 1) rfl ?_
    refine hm_1 19 (hol_append ei_86 (nb rfl) rfl (by omega) (nb rfl) (srl_os0 rfl (nb rfl)) (by omega) rfl) rfl rfl (preC rfl (pre1 rfl)) rfl rfl (c' := c + 2) rfl ?_
    refine st0 (hop_nilcheck_pt rfl) rfl rfl ?_
    refine st0 (hop_fa fd_88_1 rfl) rfl rfl ?_
    refine hm_s1 (hol_store ty_86 rfl rfl rfl rfl (nb rfl) (nb rfl) (nb rfl)) rfl rfl (pre1 rfl) (c' := c + 3) rfl ?_
    refine snl h1 ?_
    refine hw_seq (fun Nh3 h3 => ?_)
    refine (hsub_ob 9001 (shO g e (c + 1) (out ++ [(⟨2, 0, 0, 0, []⟩ : Sg)]).length) rfl (by exact osub2 (.refl _) (sb_os (by first | (simp; done) | (simp; omega))))).wp ?_; refine (hsub_ob 9002 (sgsO (c + 1) (out ++ [(⟨2, 0, 0, 0, []⟩ : Sg)])) rfl (by exact (osub_snoc (enc := sgF) (d := default) (x := (⟨2, 0, 0, 0, []⟩ : Sg)) (out := out) rfl (fun i j _ _ => .refl _) (sb_sg5 (.refl _) (.refl _) (.refl _) (.refl _) (.refl _))))).wp ?_
    refine hw_region ?_
    refine stm rfl rfl rfl ?_
    refine st0 (hop_nilcheck_pt rfl) rfl rfl ?_
    refine st0 (hop_fa fd_88_0 rfl) rfl rfl ?_
    refine st1 (hol_load ty_49 rfl (nb rfl) (nb rfl) (fun h => (by rfl))) rfl rfl rfl ?_
    refine stm rfl rfl rfl ?_
    refine st0 (hop_ia_sl el_49 rfl rfl (by omega) (by omega) (nb rfl)) rfl rfl ?_
    refine st0 (HOp.val (v' := ptH (⟨1, 0, 0, s, []⟩)) (hop_load_fp ty_75 rfl (nb rfl) (fun h => (by cases h))) (pt_at (by omega) htop.1)) rfl rfl ?_
    refine hm_1 6 (hop_alloc (id := 6) (sz := 5) zc_75 rfl rfl (nb rfl) (nb rfl)) rfl rfl pre0 rfl rfl (c' := c + 4) rfl ?_
    refine hm_s1 (hol_storeW ty_75 rfl rfl rfl rfl) rfl rfl (pre1 rfl) (c' := c + 5) rfl ?_
    refine snl h3 ?_
    refine hw_seq (fun Nh4 h4 => ?_)
    refine srg fun N h5 => ?_
    refine st0 (hop_fa fd_75_0 rfl) rfl rfl ?_
    refine st1 (hol_load ty_3 rfl (nb rfl) (nb rfl) (fun h => (by rfl))) rfl rfl rfl ?_
    refine snl h5 ?_
    refine hw_block ?_
    refine srg fun N h6 => ?_
    refine st0 (hop_eql rfl rfl) rfl rfl ?_
    refine sta rfl rfl rfl ?_
    refine snl h6 ?_
    refine hw_cond _ rfl (fun hc1 => ?_) (fun hc1 => ?_)
    · have hr1 := hc1; (try simp only [hcs, Int.reduceToNat] at hc1)
      refine hd_start ?_
      refine hd_q 33 (hop_move rfl) rfl rfl pre0 rfl rfl (k' := 1) rfl ?_
      refine hd_q 34 (hop_move rfl) rfl rfl pre0 rfl rfl (k' := 2) rfl ?_
      refine hd_q 35 (hop_nilcheck_pt rfl) rfl rfl pre0 rfl rfl (k' := 3) rfl ?_
      refine hd_q 36 (hop_fa fd_88_1 rfl) rfl rfl pre0 rfl rfl (k' := 4) rfl ?_
      refine hd_q 37 (hol_load ty_86 rfl (nb rfl) (nb rfl) (fun h => (by rfl))) rfl rfl (pre1 rfl) rfl rfl (k' := 5) rfl ?_
      refine hd_q 38 (hop_fa fd_75_3 rfl) rfl rfl pre0 rfl rfl (k' := 6) rfl ?_
      refine hd_q 39 (hol_load ty_9 rfl (nb rfl) (nb rfl) (fun h => (by rfl))) rfl rfl (pre1 rfl) rfl rfl (k' := 7) rfl ?_
      refine hd_q 40 (hop_build (hs := [(0, 1, _), (4, 1, _)]) st_108 rfl rfl ⟨rfl, rfl, rfl, rfl, rfl, ⟨rfl, rfl, rfl, rfl, rfl, trivial⟩⟩) rfl rfl pre0 rfl rfl (k' := 8) rfl ?_
      refine hd_1 41 (hop_buildSlice (id := 41) (hs := [_]) ei_86 (nb rfl) rfl (nb rfl) ⟨rfl, rfl, rfl, rfl, trivial⟩) rfl rfl pre0 rfl rfl (k' := 9) rfl ?_
      refine hd_1 42 (hol_append ei_86 (nb rfl) rfl (by omega) (nb rfl) (srl_os0 rfl (nb rfl)) (by omega) rfl) rfl rfl (preC rfl (pre1 rfl)) rfl rfl (k' := 10) rfl ?_
      refine hd_q 43 (hop_nilcheck_pt rfl) rfl rfl pre0 rfl rfl (k' := 11) rfl ?_
      refine hd_q 44 (hop_fa fd_88_1 rfl) rfl rfl pre0 rfl rfl (k' := 12) rfl ?_
      refine hd_s1 (hol_store ty_86 rfl rfl rfl rfl (nb rfl) (nb rfl) (nb rfl)) rfl rfl (pre1 rfl) (k' := 13) rfl ?_
      refine hd_nil (by kernel_rfl) (by kernel_rfl) (c' := c + 18) rfl ?_
      refine hq_block ?_
      refine h4 _ ?_
      refine hw_seq (fun Nh7 h7 => ?_)
      refine (hsub_ob 9001 (shO g e (c + 14) ((out ++ [(⟨2, 0, 0, 0, []⟩ : Sg)]) ++ [(⟨1, 0, 0, 0, s⟩ : Sg)]).length) rfl (by exact osub2 (.refl _) (sb_os (by first | (simp; done) | (simp; omega))))).wp ?_; refine (hsub_ob 9002 (sgsO (c + 14) ((out ++ [(⟨2, 0, 0, 0, []⟩ : Sg)]) ++ [(⟨1, 0, 0, 0, s⟩ : Sg)])) rfl (by exact (osub_snoc (enc := sgF) (d := default) (x := (⟨1, 0, 0, 0, s⟩ : Sg)) (out := (out ++ [(⟨2, 0, 0, 0, []⟩ : Sg)])) rfl (fun i j _ _ => .refl _) (sb_sg5 (.refl _) (.refl _) (.refl _) (.refl _) (.refl _))))).wp ?_
      refine hw_region ?_
      refine stm rfl rfl rfl ?_
      refine snl h7 ?_
      refine hw_cond _ rfl (fun hc8 => ?_) (fun hc8 => ?_)
      · have hr8 := hc8; (try simp only [hcs, Int.reduceToNat] at hc8)
        refine hw_region ?_
        refine stm rfl rfl rfl ?_
        refine stm rfl rfl rfl ?_
        refine st0 (hop_nilcheck_pt rfl) rfl rfl ?_
        refine st0 (hop_fa fd_88_1 rfl) rfl rfl ?_
        refine st1 (hol_load ty_86 rfl (nb rfl) (nb rfl) (fun h => (by rfl))) rfl rfl rfl ?_
        refine st0 (hop_build (hs := [(0, 1, _)]) st_108 rfl rfl ⟨rfl, rfl, rfl, rfl, rfl, trivial⟩) rfl rfl ?_
        refine hm_1 154 (hop_buildSlice (id := 154) (hs := [_]) ei_86 (nb rfl) rfl (nb rfl) ⟨rfl, rfl, rfl, rfl, trivial⟩) rfl rfl pre0 rfl rfl (c' := c + 19) rfl ?_
        refine hm_1 155 (hol_append ei_86 (nb rfl) rfl (by omega) (nb rfl) (srl_os0 rfl (nb rfl)) (by simp <;> omega) rfl) rfl rfl (preC rfl (pre1 rfl)) rfl rfl (c' := c + 20) rfl ?_
        refine st0 (hop_nilcheck_pt rfl) rfl rfl ?_
        refine st0 (hop_fa fd_88_1 rfl) rfl rfl ?_
        refine hm_s1 (hol_store ty_86 rfl rfl rfl rfl (nb rfl) (nb rfl) (nb rfl)) rfl rfl (pre1 rfl) (c' := c + 21) rfl ?_
        refine hseq_nil ?_
        refine hq_fall ?_
        refine hf_retR0 ok hX RetS.one rfl  [] rfl pre0 ((c + 19)) (trivial) (by rfl) (by rfl) ((by first | exact .fz _ _ (.imm _) | exact .os _ _ _ _ _ rfl rfl | exact .pt _ _ _ _ _ rfl rfl | exact .nps _ _ _ rfl rfl | (dsimp only; exact .fz _ _ Frz.fz) | exact .fz _ _ (.tup 0 _ _ (fun i hi => absurd hi (Nat.not_lt_zero _))))) ?_
        exact ⟨⟨_, rfl, okz2 (.fz _ _ (show Fz [] (ptsV e) (ptsV e) from Frz.fz)) (kz_os rfl rfl (by rw [hw1 hc8]; simp [T.sig]))⟩, ⟨⟨_, rfl, okz_sgn (x := (⟨3, 0, 0, 0, []⟩ : Sg)) (by rw [hw1 hc8]; simp [T.sig])⟩, trivial⟩⟩
      have hr8 := hc8; (try simp only [hcs, Int.reduceToNat] at hc8)
      exfalso; rw [hc0] at hr8; cases hr8
    have hr1 := hc1; (try simp only [hcs, Int.reduceToNat] at hc1)
    exfalso; simp at hr1
  have hr0 := hc0; (try simp only [hcs, Int.reduceToNat] at hc0)
  have hlw := congrArg List.length (hw0 hc0)
  refine hw_skip ?_
  refine h1 _ ?_
  refine srg fun N h8 => ?_
  refine stm rfl rfl rfl ?_
  refine st0 (hop_nilcheck_pt rfl) rfl rfl ?_
  refine st0 (hop_fa fd_88_0 rfl) rfl rfl ?_
  refine st1 (hol_load ty_49 rfl (nb rfl) (nb rfl) (fun h => (by rfl))) rfl rfl rfl ?_
  refine stm rfl rfl rfl ?_
  refine st0 (hop_ia_sl el_49 rfl rfl (by omega) (by omega) (nb rfl)) rfl rfl ?_
  refine st0 (HOp.val (v' := ptH (⟨1, 0, 0, s, []⟩)) (hop_load_fp ty_75 rfl (nb rfl) (fun h => (by cases h))) (pt_at (by omega) htop.1)) rfl rfl ?_
  refine hm_1 6 (hop_alloc (id := 6) (sz := 5) zc_75 rfl rfl (nb rfl) (nb rfl)) rfl rfl pre0 rfl rfl (c' := c + 1) rfl ?_
  refine hm_s1 (hol_storeW ty_75 rfl rfl rfl rfl) rfl rfl (pre1 rfl) (c' := c + 2) rfl ?_
  refine snl h8 ?_
  refine hw_seq (fun Nh9 h9 => ?_)
  refine srg fun N h10 => ?_
  refine st0 (hop_fa fd_75_0 rfl) rfl rfl ?_
  refine st1 (hol_load ty_3 rfl (nb rfl) (nb rfl) (fun h => (by rfl))) rfl rfl rfl ?_
  refine snl h10 ?_
  refine hw_block ?_
  refine srg fun N h11 => ?_
  refine st0 (hop_eql rfl rfl) rfl rfl ?_
  refine sta rfl rfl rfl ?_
  refine snl h11 ?_
  refine hw_cond _ rfl (fun hc1 => ?_) (fun hc1 => ?_)
  · have hr1 := hc1; (try simp only [hcs, Int.reduceToNat] at hc1)
    refine hd_start ?_
    refine hd_q 33 (hop_move rfl) rfl rfl pre0 rfl rfl (k' := 1) rfl ?_
    refine hd_q 34 (hop_move rfl) rfl rfl pre0 rfl rfl (k' := 2) rfl ?_
    refine hd_q 35 (hop_nilcheck_pt rfl) rfl rfl pre0 rfl rfl (k' := 3) rfl ?_
    refine hd_q 36 (hop_fa fd_88_1 rfl) rfl rfl pre0 rfl rfl (k' := 4) rfl ?_
    refine hd_q 37 (hol_load ty_86 rfl (nb rfl) (nb rfl) (fun h => (by rfl))) rfl rfl (pre1 rfl) rfl rfl (k' := 5) rfl ?_
    refine hd_q 38 (hop_fa fd_75_3 rfl) rfl rfl pre0 rfl rfl (k' := 6) rfl ?_
    refine hd_q 39 (hol_load ty_9 rfl (nb rfl) (nb rfl) (fun h => (by rfl))) rfl rfl (pre1 rfl) rfl rfl (k' := 7) rfl ?_
    refine hd_q 40 (hop_build (hs := [(0, 1, _), (4, 1, _)]) st_108 rfl rfl ⟨rfl, rfl, rfl, rfl, rfl, ⟨rfl, rfl, rfl, rfl, rfl, trivial⟩⟩) rfl rfl pre0 rfl rfl (k' := 8) rfl ?_
    refine hd_1 41 (hop_buildSlice (id := 41) (hs := [_]) ei_86 (nb rfl) rfl (nb rfl) ⟨rfl, rfl, rfl, rfl, trivial⟩) rfl rfl pre0 rfl rfl (k' := 9) rfl ?_
    refine hd_1 42 (hol_append ei_86 (nb rfl) rfl (by omega) (nb rfl) (srl_os0 rfl (nb rfl)) (by omega) rfl) rfl rfl (preC rfl (pre1 rfl)) rfl rfl (k' := 10) rfl ?_
    refine hd_q 43 (hop_nilcheck_pt rfl) rfl rfl pre0 rfl rfl (k' := 11) rfl ?_
    refine hd_q 44 (hop_fa fd_88_1 rfl) rfl rfl pre0 rfl rfl (k' := 12) rfl ?_
    refine hd_s1 (hol_store ty_86 rfl rfl rfl rfl (nb rfl) (nb rfl) (nb rfl)) rfl rfl (pre1 rfl) (k' := 13) rfl ?_
    refine hd_nil (by kernel_rfl) (by kernel_rfl) (c' := c + 15) rfl ?_
    refine hq_block ?_
    refine h9 _ ?_
    refine hw_seq (fun Nh12 h12 => ?_)
    refine (hsub_ob 9001 (shO g e (c + 11) (out ++ [(⟨1, 0, 0, 0, s⟩ : Sg)]).length) rfl (by exact osub2 (.refl _) (sb_os (by first | (simp; done) | (simp; omega))))).wp ?_; refine (hsub_ob 9002 (sgsO (c + 11) (out ++ [(⟨1, 0, 0, 0, s⟩ : Sg)])) rfl (by exact (osub_snoc (enc := sgF) (d := default) (x := (⟨1, 0, 0, 0, s⟩ : Sg)) (out := out) rfl (fun i j _ _ => .refl _) (sb_sg5 (.refl _) (.refl _) (.refl _) (.refl _) (.refl _))))).wp ?_
    refine hw_region ?_
    refine stm rfl rfl rfl ?_
    refine snl h12 ?_
    refine hw_cond _ rfl (fun hc8 => ?_) (fun hc8 => ?_)
    · have hr8 := hc8; (try simp only [hcs, Int.reduceToNat] at hc8)
      exfalso; rw [hc0] at hr8; cases hr8
    have hr8 := hc8; (try simp only [hcs, Int.reduceToNat] at hc8)
    refine hw_skip ?_
    refine hq_fall ?_
    refine hf_retR0 ok hX RetS.one rfl  [] rfl pre0 ((c + 11)) (trivial) (by rfl) (by rfl) ((by first | exact .fz _ _ (.imm _) | exact .os _ _ _ _ _ rfl rfl | exact .pt _ _ _ _ _ rfl rfl | exact .nps _ _ _ rfl rfl | (dsimp only; exact .fz _ _ Frz.fz) | exact .fz _ _ (.tup 0 _ _ (fun i hi => absurd hi (Nat.not_lt_zero _))))) ?_
    exact ⟨⟨_, rfl, okz_sh rfl rfl (by rw [hw0 hc8]; rfl)⟩, ⟨⟨_, rfl, okz_sgs (by rw [hw0 hc8]; rfl)⟩, trivial⟩⟩
  have hr1 := hc1; (try simp only [hcs, Int.reduceToNat] at hc1)
  exfalso; simp at hr1
theorem AtP.mono_times {e : List Pt} {b : Nat} {lo hi : Int} {t : T} (h : AtP e b (T.flat b (.times lo hi t))) : AtP e b (T.flat b t) := by
  simp only [T.flat] at h; exact atP_left h
theorem lay_times (e : List Pt) (b : Nat) (he : e.length ≤ 100000) (lo hi : Int) (t : T) (ih : LayC e b t) (hat : AtP e b (T.flat b (T.times lo hi t))) : LayC e b (T.times lo hi t) := by
  intro c g g2 out bin hb
  have htop := at_top hat
  have hwl := wrap_len bin (T.times lo hi t).sig
  have hw1 : bin = true → wrapS bin (T.times lo hi t).sig = [(⟨2, 0, 0, 0, []⟩ : Sg)] ++ (T.times lo hi t).sig ++ [(⟨3, 0, 0, 0, []⟩ : Sg)] := fun h => by rw [h]; rfl
  have hw0 : bin = false → wrapS bin (T.times lo hi t).sig = (T.times lo hi t).sig := fun h => by rw [h]; rfl
  have hlw1 : bin = true → (wrapS bin (T.times lo hi t).sig).length = (T.times lo hi t).sig.length + 2 := fun h => by rw [hw1 h, List.length_append, List.length_append]; show 1 + _ + 1 = _; omega
  have hsp := T.size_pos (T.times lo hi t)
  have hka := AtP.mono_times hat
  have hkt := (at_top hka).1
  have hkl := (at_top hka).2
  have hts := t.size_pos
  have hsz : (T.times lo hi t).sig.length = (wrapS (inB 4 t.kind) t.sig).length + 1 := by simp [T.sig]
  replace hkt : (e.getD (b + t.size - 1) default).kind = t.kind := by rw [hkt, top_kind]
  refine hfun_of Tryd.func50 rfl (by kernel_rfl) _ _ _ _ rfl 158 rfl rfl (fun X ok hX => ?_)
  refine hw_seq (fun Nh1 h1 => ?_)
  refine srg fun N h2 => ?_
  refine stm rfl rfl rfl ?_
  refine snl h2 ?_
  refine hw_cond _ rfl (fun hc0 => ?_) (fun hc0 => ?_)
  · have hr0 := hc0; (try simp only [hcs, Int.reduceToNat] at hc0)
    have ho1 : (out ++ [(⟨2, 0, 0, 0, []⟩ : Sg)]).length = out.length + 1 := (by simp); have hlw := hlw1 hc0
    refine hw_region ?_
    refine stm rfl rfl rfl ?_
    refine stm rfl rfl rfl ?_
    refine st0 (hop_nilcheck_pt rfl) rfl rfl ?_
    refine st0 (hop_fa fd_88_1 rfl) rfl rfl ?_
    refine st1 (hol_load ty_86 rfl (nb rfl) (nb rfl) (fun h => (by rfl))) rfl rfl rfl ?_
    refine st0 (hop_build (hs := [(0, 1, _)]) st_108 rfl rfl ⟨rfl, rfl, rfl, rfl, rfl, trivial⟩) rfl rfl ?_
    refine hm_1 18 (hop_buildSlice (id := 18) (hs := [_]) ei_86 (nb rfl) rfl (nb rfl) ⟨rfl, rfl, rfl, rfl, trivial⟩) rfl rfl pre0 rfl rfl (c' := c + 1) rfl ?_
    refine hm_1 19 (hol_append ei_86 (nb rfl) rfl (by omega) (nb rfl) (srl_os0 rfl (nb rfl)) (by omega) rfl) rfl rfl (preC rfl (pre1 rfl)) rfl rfl (c' := c + 2) rfl ?_
    refine st0 (hop_nilcheck_pt rfl) rfl rfl ?_
    refine st0 (hop_fa fd_88_1 rfl) rfl rfl ?_
    refine hm_s1 (hol_store ty_86 rfl rfl rfl rfl (nb rfl) (nb rfl) (nb rfl)) rfl rfl (pre1 rfl) (c' := c + 3) rfl ?_
    refine snl h1 ?_
    refine hw_seq (fun Nh3 h3 => ?_)
    refine (hsub_ob 9001 (shO g e (c + 1) (out ++ [(⟨2, 0, 0, 0, []⟩ : Sg)]).length) rfl (by exact osub2 (.refl _) (sb_os (by first | (simp; done) | (simp; omega))))).wp ?_; refine (hsub_ob 9002 (sgsO (c + 1) (out ++ [(⟨2, 0, 0, 0, []⟩ : Sg)])) rfl (by exact (osub_snoc (enc := sgF) (d := default) (x := (⟨2, 0, 0, 0, []⟩ : Sg)) (out := out) rfl (fun i j _ _ => .refl _) (sb_sg5 (.refl _) (.refl _) (.refl _) (.refl _) (.refl _))))).wp ?_
    refine hw_region ?_
    refine stm rfl rfl rfl ?_
    refine st0 (hop_nilcheck_pt rfl) rfl rfl ?_
    refine st0 (hop_fa fd_88_0 rfl) rfl rfl ?_
    refine st1 (hol_load ty_49 rfl (nb rfl) (nb rfl) (fun h => (by rfl))) rfl rfl rfl ?_
    refine stm rfl rfl rfl ?_
    refine st0 (hop_ia_sl el_49 rfl rfl (by omega) (by omega) (nb rfl)) rfl rfl ?_
    refine st0 (HOp.val (v' := ptH (⟨4, lo, hi, [], [((b + t.size : Nat) : Int) - 1]⟩)) (hop_load_fp ty_75 rfl (nb rfl) (fun h => (by cases h))) (pt_at (by omega) htop.1)) rfl rfl ?_
    refine hm_1 6 (hop_alloc (id := 6) (sz := 5) zc_75 rfl rfl (nb rfl) (nb rfl)) rfl rfl pre0 rfl rfl (c' := c + 4) rfl ?_
    refine hm_s1 (hol_storeW ty_75 rfl rfl rfl rfl) rfl rfl (pre1 rfl) (c' := c + 5) rfl ?_
    refine snl h3 ?_
    refine hw_seq (fun Nh4 h4 => ?_)
    refine srg fun N h5 => ?_
    refine st0 (hop_fa fd_75_0 rfl) rfl rfl ?_
    refine st1 (hol_load ty_3 rfl (nb rfl) (nb rfl) (fun h => (by rfl))) rfl rfl rfl ?_
    refine snl h5 ?_
    refine hw_block ?_
    refine srg fun N h6 => ?_
    refine st0 (hop_eql rfl rfl) rfl rfl ?_
    refine sta rfl rfl rfl ?_
    refine snl h6 ?_
    refine hw_cond _ rfl (fun hc1 => ?_) (fun hc1 => ?_)
    · have hr1 := hc1; (try simp only [hcs, Int.reduceToNat] at hc1)
      exfalso; simp at hr1
    have hr1 := hc1; (try simp only [hcs, Int.reduceToNat] at hc1)
    refine srg fun N h7 => ?_
    refine st0 (hop_eql rfl rfl) rfl rfl ?_
    refine sta rfl rfl rfl ?_
    refine snl h7 ?_
    refine hw_cond _ rfl (fun hc2 => ?_) (fun hc2 => ?_)
    · have hr2 := hc2; (try simp only [hcs, Int.reduceToNat] at hc2)
      exfalso; simp at hr2
    have hr2 := hc2; (try simp only [hcs, Int.reduceToNat] at hc2)
    refine srg fun N h8 => ?_
    refine st0 (hop_eql rfl rfl) rfl rfl ?_
    refine sta rfl rfl rfl ?_
    refine snl h8 ?_
    refine hw_cond _ rfl (fun hc4 => ?_) (fun hc4 => ?_)
    · have hr4 := hc4; (try simp only [hcs, Int.reduceToNat] at hc4)
      exfalso; simp at hr4
    have hr4 := hc4; (try simp only [hcs, Int.reduceToNat] at hc4)
    refine srg fun N h9 => ?_
    refine st0 (hop_eql rfl rfl) rfl rfl ?_
    refine sta rfl rfl rfl ?_
    refine snl h9 ?_
    refine hw_cond _ rfl (fun hc7 => ?_) (fun hc7 => ?_)
    · have hr7 := hc7; (try simp only [hcs, Int.reduceToNat] at hc7)
      refine hw_seq (fun Nh10 h10 => ?_)
      refine hd_start ?_
      refine hd_q 115 (hop_move rfl) rfl rfl pre0 rfl rfl (k' := 1) rfl ?_
      refine hd_q 116 (hop_fa fd_75_4 rfl) rfl rfl pre0 rfl rfl (k' := 2) rfl ?_
      refine hd_q 117 (hol_load ty_44 rfl (nb rfl) (nb rfl) (fun h => (by rfl))) rfl rfl (pre1 rfl) rfl rfl (k' := 3) rfl ?_
      refine hd_q 118 (hop_ia_sl el_44 rfl rfl (by omega) (by simp <;> omega) (nb rfl)) rfl rfl pre0 rfl rfl (k' := 4) rfl ?_
      refine hd_q 119 (HOp.val (v' := intV ((b + t.size - 1 : Nat) : Int)) (hop_load_fp ty_3 rfl (nb rfl) (fun h => (by rfl))) (congrArg intV (show ((b + t.size : Nat) : Int) - 1 = ((b + t.size - 1 : Nat) : Int) by omega))) rfl rfl pre0 rfl rfl (k' := 5) rfl ?_
      refine hd_q 120 (hop_move rfl) rfl rfl pre0 rfl rfl (k' := 6) rfl ?_
      refine hd_q 121 (hop_nilcheck_pt rfl) rfl rfl pre0 rfl rfl (k' := 7) rfl ?_
      refine hd_q 122 (hop_fa fd_88_0 rfl) rfl rfl pre0 rfl rfl (k' := 8) rfl ?_
      refine hd_q 123 (hol_load ty_49 rfl (nb rfl) (nb rfl) (fun h => (by rfl))) rfl rfl (pre1 rfl) rfl rfl (k' := 9) rfl ?_
      refine hd_q 124 (hop_fa fd_75_4 rfl) rfl rfl pre0 rfl rfl (k' := 10) rfl ?_
      refine hd_q 125 (hol_load ty_44 rfl (nb rfl) (nb rfl) (fun h => (by rfl))) rfl rfl (pre1 rfl) rfl rfl (k' := 11) rfl ?_
      refine hd_q 126 (hop_ia_sl el_44 rfl rfl (by omega) (by simp <;> omega) (nb rfl)) rfl rfl pre0 rfl rfl (k' := 12) rfl ?_
      refine hd_q 127 (HOp.val (v' := intV ((b + t.size - 1 : Nat) : Int)) (hop_load_fp ty_3 rfl (nb rfl) (fun h => (by rfl))) (congrArg intV (show ((b + t.size : Nat) : Int) - 1 = ((b + t.size - 1 : Nat) : Int) by omega))) rfl rfl pre0 rfl rfl (k' := 13) rfl ?_
      refine hd_q 128 (hop_ia_sl el_49 rfl rfl (by omega) (by omega) (nb rfl)) rfl rfl pre0 rfl rfl (k' := 14) rfl ?_
      refine hd_q 129 (hop_fa_fp fd_75_0 rfl (nb rfl)) rfl rfl pre0 rfl rfl (k' := 15) rfl ?_
      refine hd_q 130 (HOp.val (v' := intV t.kind) (hop_load_fp ty_3 rfl (nb rfl) (fun h => (by rfl))) (kind_at (by omega) hkt)) rfl rfl pre0 rfl rfl (k' := 16) rfl ?_
      refine hd_q 131 (hop_neq rfl rfl) rfl rfl pre0 rfl rfl (k' := 17) rfl ?_
      refine hd_cut (by kernel_rfl) (by kernel_rfl) (by kernel_rfl) (by kernel_rfl) (c' := c + 22) rfl ?_ (by simp)
      refine hf_callR 132 (xs := [_, _, _]) (pre := [(9001, _), (9002, _)]) (ih _ g (c + 1) (out ++ [(⟨2, 0, 0, 0, []⟩ : Sg)]) (inB 4 t.kind) (by omega)) ⟨rfl, ⟨rfl, ⟨rfl, trivial⟩⟩⟩ (preC rfl (preC rfl pre0)) rfl rfl (fun g3 c1 hx1 => ?_)
      (try dsimp only)
      refine snl h10 ?_
      have hol : ((out ++ [(⟨2, 0, 0, 0, []⟩ : Sg)]) ++ wrapS (inB 4 t.kind) t.sig).length = ((out ++ [(⟨2, 0, 0, 0, []⟩ : Sg)])).length + (wrapS (inB 4 t.kind) t.sig).length := List.length_append
      refine hd_start ?_
      refine hd_q 133 (hop_move rfl) rfl rfl pre0 rfl rfl (k' := 1) rfl ?_
      refine hd_q 134 (hop_move rfl) rfl rfl pre0 rfl rfl (k' := 2) rfl ?_
      refine hd_q 135 (hop_nilcheck_pt rfl) rfl rfl pre0 rfl rfl (k' := 3) rfl ?_
      refine hd_q 136 (hop_fa fd_88_1 rfl) rfl rfl pre0 rfl rfl (k' := 4) rfl ?_
      refine hd_q 137 (hol_load ty_86 rfl (nb rfl) (nb rfl) (fun h => (by rfl))) rfl rfl (pre1 rfl) rfl rfl (k' := 5) rfl ?_
      refine hd_q 138 (hop_fa fd_75_1 rfl) rfl rfl pre0 rfl rfl (k' := 6) rfl ?_
      refine hd_q 139 (hol_load ty_3 rfl (nb rfl) (nb rfl) (fun h => (by rfl))) rfl rfl (pre1 rfl) rfl rfl (k' := 7) rfl ?_
      refine hd_q 140 (hop_fa fd_75_2 rfl) rfl rfl pre0 rfl rfl (k' := 8) rfl ?_
      refine hd_q 141 (hol_load ty_3 rfl (nb rfl) (nb rfl) (fun h => (by rfl))) rfl rfl (pre1 rfl) rfl rfl (k' := 9) rfl ?_
      refine hd_q 142 (hop_build (hs := [(0, 1, _), (2, 1, _), (3, 1, _)]) st_108 rfl rfl ⟨rfl, rfl, rfl, rfl, rfl, ⟨rfl, rfl, rfl, rfl, rfl, ⟨rfl, rfl, rfl, rfl, rfl, trivial⟩⟩⟩) rfl rfl pre0 rfl rfl (k' := 10) rfl ?_
      refine hd_1 143 (hop_buildSlice (id := 143) (hs := [_]) ei_86 (nb rfl) rfl (nb rfl) ⟨rfl, rfl, rfl, rfl, trivial⟩) rfl rfl pre0 rfl rfl (k' := 11) rfl ?_
      refine hd_1 144 (hol_append ei_86 (nb rfl) rfl (by omega) (nb rfl) (srl_os0 rfl (nb rfl)) (by omega) rfl) rfl rfl (preC rfl (pre1 rfl)) rfl rfl (k' := 12) rfl ?_
      refine hd_q 145 (hop_nilcheck_pt rfl) rfl rfl pre0 rfl rfl (k' := 13) rfl ?_
      refine hd_q 146 (hop_fa fd_88_1 rfl) rfl rfl pre0 rfl rfl (k' := 14) rfl ?_
      refine hd_s1 (hol_store ty_86 rfl rfl rfl rfl (nb rfl) (nb rfl) (nb rfl)) rfl rfl (pre1 rfl) (k' := 15) rfl ?_
      refine hd_nil (by kernel_rfl) (by kernel_rfl) (c' := c1 + 15) rfl ?_
      refine hq_block ?_
      refine h4 _ ?_
      refine hw_seq (fun Nh11 h11 => ?_)
      refine (hsub_ob 9001 (shO g e (c1 + 11) (((out ++ [(⟨2, 0, 0, 0, []⟩ : Sg)]) ++ wrapS (inB 4 t.kind) t.sig) ++ [(⟨5, 0, lo, hi, []⟩ : Sg)]).length) rfl (by exact osub2 (.refl _) (sb_os (by first | (simp; done) | (simp; omega))))).wp ?_; refine (hsub_ob 9002 (sgsO (c1 + 11) (((out ++ [(⟨2, 0, 0, 0, []⟩ : Sg)]) ++ wrapS (inB 4 t.kind) t.sig) ++ [(⟨5, 0, lo, hi, []⟩ : Sg)])) rfl (by exact (osub_snoc (enc := sgF) (d := default) (x := (⟨5, 0, lo, hi, []⟩ : Sg)) (out := ((out ++ [(⟨2, 0, 0, 0, []⟩ : Sg)]) ++ wrapS (inB 4 t.kind) t.sig)) rfl (fun i j _ _ => .refl _) (sb_sg5 (.refl _) (.refl _) (.refl _) (.refl _) (.refl _))))).wp ?_
      refine hw_region ?_
      refine stm rfl rfl rfl ?_
      refine snl h11 ?_
      refine hw_cond _ rfl (fun hc8 => ?_) (fun hc8 => ?_)
      · have hr8 := hc8; (try simp only [hcs, Int.reduceToNat] at hc8)
        refine hw_region ?_
        refine stm rfl rfl rfl ?_
        refine stm rfl rfl rfl ?_
        refine st0 (hop_nilcheck_pt rfl) rfl rfl ?_
        refine st0 (hop_fa fd_88_1 rfl) rfl rfl ?_
        refine st1 (hol_load ty_86 rfl (nb rfl) (nb rfl) (fun h => (by rfl))) rfl rfl rfl ?_
        refine st0 (hop_build (hs := [(0, 1, _)]) st_108 rfl rfl ⟨rfl, rfl, rfl, rfl, rfl, trivial⟩) rfl rfl ?_
        refine hm_1 154 (hop_buildSlice (id := 154) (hs := [_]) ei_86 (nb rfl) rfl (nb rfl) ⟨rfl, rfl, rfl, rfl, trivial⟩) rfl rfl pre0 rfl rfl (c' := c1 + 16) rfl ?_
        refine hm_1 155 (hol_append ei_86 (nb rfl) rfl (by omega) (nb rfl) (srl_os0 rfl (nb rfl)) (by simp <;> omega) rfl) rfl rfl (preC rfl (pre1 rfl)) rfl rfl (c' := c1 + 17) rfl ?_
        refine st0 (hop_nilcheck_pt rfl) rfl rfl ?_
        refine st0 (hop_fa fd_88_1 rfl) rfl rfl ?_
        refine hm_s1 (hol_store ty_86 rfl rfl rfl rfl (nb rfl) (nb rfl) (nb rfl)) rfl rfl (pre1 rfl) (c' := c1 + 18) rfl ?_
        refine hseq_nil ?_
        refine hq_fall ?_
        refine hf_retR0 ok hX RetS.one rfl  [] rfl pre0 ((c1 + 16)) (trivial) (by rfl) (by rfl) ((by first | exact .fz _ _ (.imm _) | exact .os _ _ _ _ _ rfl rfl | exact .pt _ _ _ _ _ rfl rfl | exact .nps _ _ _ rfl rfl | (dsimp only; exact .fz _ _ Frz.fz) | exact .fz _ _ (.tup 0 _ _ (fun i hi => absurd hi (Nat.not_lt_zero _))))) ?_
        exact ⟨⟨_, rfl, okz2 (.fz _ _ (show Fz [] (ptsV e) (ptsV e) from Frz.fz)) (kz_os rfl rfl (by rw [hw1 hc8]; first | (simp [T.sig]; done) | (simp [T.sig]; omega)))⟩, ⟨⟨_, rfl, okz_sgn (x := (⟨3, 0, 0, 0, []⟩ : Sg)) (by rw [hw1 hc8]; simp [T.sig])⟩, trivial⟩⟩
      have hr8 := hc8; (try simp only [hcs, Int.reduceToNat] at hc8)
      exfalso; rw [hc0] at hr8; cases hr8
    have hr7 := hc7; (try simp only [hcs, Int.reduceToNat] at hc7)
    exfalso; simp at hr7
  have hr0 := hc0; (try simp only [hcs, Int.reduceToNat] at hc0)
  have hlw := congrArg List.length (hw0 hc0)
  refine hw_skip ?_
  refine h1 _ ?_
  refine srg fun N h12 => ?_
  refine stm rfl rfl rfl ?_
  refine st0 (hop_nilcheck_pt rfl) rfl rfl ?_
  refine st0 (hop_fa fd_88_0 rfl) rfl rfl ?_
  refine st1 (hol_load ty_49 rfl (nb rfl) (nb rfl) (fun h => (by rfl))) rfl rfl rfl ?_
  refine stm rfl rfl rfl ?_
  refine st0 (hop_ia_sl el_49 rfl rfl (by omega) (by omega) (nb rfl)) rfl rfl ?_
  refine st0 (HOp.val (v' := ptH (⟨4, lo, hi, [], [((b + t.size : Nat) : Int) - 1]⟩)) (hop_load_fp ty_75 rfl (nb rfl) (fun h => (by cases h))) (pt_at (by omega) htop.1)) rfl rfl ?_
  refine hm_1 6 (hop_alloc (id := 6) (sz := 5) zc_75 rfl rfl (nb rfl) (nb rfl)) rfl rfl pre0 rfl rfl (c' := c + 1) rfl ?_
  refine hm_s1 (hol_storeW ty_75 rfl rfl rfl rfl) rfl rfl (pre1 rfl) (c' := c + 2) rfl ?_
  refine snl h12 ?_
  refine hw_seq (fun Nh13 h13 => ?_)
  refine srg fun N h14 => ?_
  refine st0 (hop_fa fd_75_0 rfl) rfl rfl ?_
  refine st1 (hol_load ty_3 rfl (nb rfl) (nb rfl) (fun h => (by rfl))) rfl rfl rfl ?_
  refine snl h14 ?_
  refine hw_block ?_
  refine srg fun N h15 => ?_
  refine st0 (hop_eql rfl rfl) rfl rfl ?_
  refine sta rfl rfl rfl ?_
  refine snl h15 ?_
  refine hw_cond _ rfl (fun hc1 => ?_) (fun hc1 => ?_)
  · have hr1 := hc1; (try simp only [hcs, Int.reduceToNat] at hc1)
    exfalso; simp at hr1
  have hr1 := hc1; (try simp only [hcs, Int.reduceToNat] at hc1)
  refine srg fun N h16 => ?_
  refine st0 (hop_eql rfl rfl) rfl rfl ?_
  refine sta rfl rfl rfl ?_
  refine snl h16 ?_
  refine hw_cond _ rfl (fun hc2 => ?_) (fun hc2 => ?_)
  · have hr2 := hc2; (try simp only [hcs, Int.reduceToNat] at hc2)
    exfalso; simp at hr2
  have hr2 := hc2; (try simp only [hcs, Int.reduceToNat] at hc2)
  refine srg fun N h17 => ?_
  refine st0 (hop_eql rfl rfl) rfl rfl ?_
  refine sta rfl rfl rfl ?_
  refine snl h17 ?_
  refine hw_cond _ rfl (fun hc4 => ?_) (fun hc4 => ?_)
  · have hr4 := hc4; (try simp only [hcs, Int.reduceToNat] at hc4)
    exfalso; simp at hr4
  have hr4 := hc4; (try simp only [hcs, Int.reduceToNat] at hc4)
  refine srg fun N h18 => ?_
  refine st0 (hop_eql rfl rfl) rfl rfl ?_
  refine sta rfl rfl rfl ?_
  refine snl h18 ?_
  refine hw_cond _ rfl (fun hc7 => ?_) (fun hc7 => ?_)
  · have hr7 := hc7; (try simp only [hcs, Int.reduceToNat] at hc7)
    refine hw_seq (fun Nh19 h19 => ?_)
    refine hd_start ?_
    refine hd_q 115 (hop_move rfl) rfl rfl pre0 rfl rfl (k' := 1) rfl ?_
    refine hd_q 116 (hop_fa fd_75_4 rfl) rfl rfl pre0 rfl rfl (k' := 2) rfl ?_
    refine hd_q 117 (hol_load ty_44 rfl (nb rfl) (nb rfl) (fun h => (by rfl))) rfl rfl (pre1 rfl) rfl rfl (k' := 3) rfl ?_
    refine hd_q 118 (hop_ia_sl el_44 rfl rfl (by omega) (by simp <;> omega) (nb rfl)) rfl rfl pre0 rfl rfl (k' := 4) rfl ?_
    refine hd_q 119 (HOp.val (v' := intV ((b + t.size - 1 : Nat) : Int)) (hop_load_fp ty_3 rfl (nb rfl) (fun h => (by rfl))) (congrArg intV (show ((b + t.size : Nat) : Int) - 1 = ((b + t.size - 1 : Nat) : Int) by omega))) rfl rfl pre0 rfl rfl (k' := 5) rfl ?_
    refine hd_q 120 (hop_move rfl) rfl rfl pre0 rfl rfl (k' := 6) rfl ?_
    refine hd_q 121 (hop_nilcheck_pt rfl) rfl rfl pre0 rfl rfl (k' := 7) rfl ?_
    refine hd_q 122 (hop_fa fd_88_0 rfl) rfl rfl pre0 rfl rfl (k' := 8) rfl ?_
    refine hd_q 123 (hol_load ty_49 rfl (nb rfl) (nb rfl) (fun h => (by rfl))) rfl rfl (pre1 rfl) rfl rfl (k' := 9) rfl ?_
    refine hd_q 124 (hop_fa fd_75_4 rfl) rfl rfl pre0 rfl rfl (k' := 10) rfl ?_
    refine hd_q 125 (hol_load ty_44 rfl (nb rfl) (nb rfl) (fun h => (by rfl))) rfl rfl (pre1 rfl) rfl rfl (k' := 11) rfl ?_
    refine hd_q 126 (hop_ia_sl el_44 rfl rfl (by omega) (by simp <;> omega) (nb rfl)) rfl rfl pre0 rfl rfl (k' := 12) rfl ?_
    refine hd_q 127 (HOp.val (v' := intV ((b + t.size - 1 : Nat) : Int)) (hop_load_fp ty_3 rfl (nb rfl) (fun h => (by rfl))) (congrArg intV (show ((b + t.size : Nat) : Int) - 1 = ((b + t.size - 1 : Nat) : Int) by omega))) rfl rfl pre0 rfl rfl (k' := 13) rfl ?_
    refine hd_q 128 (hop_ia_sl el_49 rfl rfl (by omega) (by omega) (nb rfl)) rfl rfl pre0 rfl rfl (k' := 14) rfl ?_
    refine hd_q 129 (hop_fa_fp fd_75_0 rfl (nb rfl)) rfl rfl pre0 rfl rfl (k' := 15) rfl ?_
    refine hd_q 130 (HOp.val (v' := intV t.kind) (hop_load_fp ty_3 rfl (nb rfl) (fun h => (by rfl))) (kind_at (by omega) hkt)) rfl rfl pre0 rfl rfl (k' := 16) rfl ?_
    refine hd_q 131 (hop_neq rfl rfl) rfl rfl pre0 rfl rfl (k' := 17) rfl ?_
    refine hd_cut (by kernel_rfl) (by kernel_rfl) (by kernel_rfl) (by kernel_rfl) (c' := c + 19) rfl ?_ (by simp)
    refine hf_callR 132 (xs := [_, _, _]) (pre := [(9001, _), (9002, _)]) (ih _ g (g2) out (inB 4 t.kind) (by omega)) ⟨rfl, ⟨rfl, ⟨rfl, trivial⟩⟩⟩ (preC rfl (preC rfl pre0)) rfl rfl (fun g3 c2 hx2 => ?_)
    (try dsimp only)
    refine snl h19 ?_
    have hol : (out ++ wrapS (inB 4 t.kind) t.sig).length = (out).length + (wrapS (inB 4 t.kind) t.sig).length := List.length_append
    refine hd_start ?_
    refine hd_q 133 (hop_move rfl) rfl rfl pre0 rfl rfl (k' := 1) rfl ?_
    refine hd_q 134 (hop_move rfl) rfl rfl pre0 rfl rfl (k' := 2) rfl ?_
    refine hd_q 135 (hop_nilcheck_pt rfl) rfl rfl pre0 rfl rfl (k' := 3) rfl ?_
    refine hd_q 136 (hop_fa fd_88_1 rfl) rfl rfl pre0 rfl rfl (k' := 4) rfl ?_
    refine hd_q 137 (hol_load ty_86 rfl (nb rfl) (nb rfl) (fun h => (by rfl))) rfl rfl (pre1 rfl) rfl rfl (k' := 5) rfl ?_
    refine hd_q 138 (hop_fa fd_75_1 rfl) rfl rfl pre0 rfl rfl (k' := 6) rfl ?_
    refine hd_q 139 (hol_load ty_3 rfl (nb rfl) (nb rfl) (fun h => (by rfl))) rfl rfl (pre1 rfl) rfl rfl (k' := 7) rfl ?_
    refine hd_q 140 (hop_fa fd_75_2 rfl) rfl rfl pre0 rfl rfl (k' := 8) rfl ?_
    refine hd_q 141 (hol_load ty_3 rfl (nb rfl) (nb rfl) (fun h => (by rfl))) rfl rfl (pre1 rfl) rfl rfl (k' := 9) rfl ?_
    refine hd_q 142 (hop_build (hs := [(0, 1, _), (2, 1, _), (3, 1, _)]) st_108 rfl rfl ⟨rfl, rfl, rfl, rfl, rfl, ⟨rfl, rfl, rfl, rfl, rfl, ⟨rfl, rfl, rfl, rfl, rfl, trivial⟩⟩⟩) rfl rfl pre0 rfl rfl (k' := 10) rfl ?_
    refine hd_1 143 (hop_buildSlice (id := 143) (hs := [_]) ei_86 (nb rfl) rfl (nb rfl) ⟨rfl, rfl, rfl, rfl, trivial⟩) rfl rfl pre0 rfl rfl (k' := 11) rfl ?_
    refine hd_1 144 (hol_append ei_86 (nb rfl) rfl (by omega) (nb rfl) (srl_os0 rfl (nb rfl)) (by omega) rfl) rfl rfl (preC rfl (pre1 rfl)) rfl rfl (k' := 12) rfl ?_
    refine hd_q 145 (hop_nilcheck_pt rfl) rfl rfl pre0 rfl rfl (k' := 13) rfl ?_
    refine hd_q 146 (hop_fa fd_88_1 rfl) rfl rfl pre0 rfl rfl (k' := 14) rfl ?_
    refine hd_s1 (hol_store ty_86 rfl rfl rfl rfl (nb rfl) (nb rfl) (nb rfl)) rfl rfl (pre1 rfl) (k' := 15) rfl ?_
    refine hd_nil (by kernel_rfl) (by kernel_rfl) (c' := c2 + 15) rfl ?_
    refine hq_block ?_
    refine h13 _ ?_
    refine hw_seq (fun Nh20 h20 => ?_)
    refine (hsub_ob 9001 (shO g e (c2 + 11) ((out ++ wrapS (inB 4 t.kind) t.sig) ++ [(⟨5, 0, lo, hi, []⟩ : Sg)]).length) rfl (by exact osub2 (.refl _) (sb_os (by first | (simp; done) | (simp; omega))))).wp ?_; refine (hsub_ob 9002 (sgsO (c2 + 11) ((out ++ wrapS (inB 4 t.kind) t.sig) ++ [(⟨5, 0, lo, hi, []⟩ : Sg)])) rfl (by exact (osub_snoc (enc := sgF) (d := default) (x := (⟨5, 0, lo, hi, []⟩ : Sg)) (out := (out ++ wrapS (inB 4 t.kind) t.sig)) rfl (fun i j _ _ => .refl _) (sb_sg5 (.refl _) (.refl _) (.refl _) (.refl _) (.refl _))))).wp ?_
    refine hw_region ?_
    refine stm rfl rfl rfl ?_
    refine snl h20 ?_
    refine hw_cond _ rfl (fun hc8 => ?_) (fun hc8 => ?_)
    · have hr8 := hc8; (try simp only [hcs, Int.reduceToNat] at hc8)
      exfalso; rw [hc0] at hr8; cases hr8
    have hr8 := hc8; (try simp only [hcs, Int.reduceToNat] at hc8)
    refine hw_skip ?_
    refine hq_fall ?_
    refine hf_retR0 ok hX RetS.one rfl  [] rfl pre0 ((c2 + 11)) (trivial) (by rfl) (by rfl) ((by first | exact .fz _ _ (.imm _) | exact .os _ _ _ _ _ rfl rfl | exact .pt _ _ _ _ _ rfl rfl | exact .nps _ _ _ rfl rfl | (dsimp only; exact .fz _ _ Frz.fz) | exact .fz _ _ (.tup 0 _ _ (fun i hi => absurd hi (Nat.not_lt_zero _))))) ?_
    exact ⟨⟨_, rfl, okz_sh rfl rfl (by rw [hw0 hc8]; simp [T.sig])⟩, ⟨⟨_, rfl, okz_sgs (by rw [hw0 hc8]; simp [T.sig])⟩, trivial⟩⟩
  have hr7 := hc7; (try simp only [hcs, Int.reduceToNat] at hc7)
  exfalso; simp at hr7
theorem kids_len {ts : List T} {k : Int} {i : Nat} (hok : T.okL ts = true) (hi : i ≤ ts.length) : (T.sigL k true (ts.take i)).length ≤ (T.sigL k true ts).length := by
  by_cases h : i < ts.length
  · rw [sigL_cut k ts true i h]; simp only [List.length_append]; omega
  · rw [show i = ts.length by omega, List.take_length]; exact Nat.le_refl _
theorem kid_next_len {ts : List T} {k : Int} {i : Nat} (h : i < ts.length) : (T.sigL k true (ts.take i)).length + (orS k (decide (i = 0))).length + (wrapS (inB k (ts.getD i default).kind) (ts.getD i default).sig).length ≤ (T.sigL k true ts).length := by
  have := sigL_cut k ts true i h
  rw [Bool.true_and] at this
  rw [this]; simp only [List.length_append]; omega
theorem lay_row (e : List Pt) (b : Nat) (he : e.length ≤ 100000) (ts : List T) (hok : T.okL ts = true) (hts : ts.length ≤ 100000) (ih : ∀ i, i < ts.length → LayC e (b + T.sizeL (ts.take i)) (ts.getD i default)) (hat : AtP e b (T.flat b (T.many 2 ts))) : LayC e b (T.many 2 ts) := by
  intro c g g2 out bin hb
  have htop := at_top hat
  have hwl := wrap_len bin (T.many 2 ts).sig
  have hw1 : bin = true → wrapS bin (T.many 2 ts).sig = [(⟨2, 0, 0, 0, []⟩ : Sg)] ++ (T.many 2 ts).sig ++ [(⟨3, 0, 0, 0, []⟩ : Sg)] := fun h => by rw [h]; rfl
  have hw0 : bin = false → wrapS bin (T.many 2 ts).sig = (T.many 2 ts).sig := fun h => by rw [h]; rfl
  have hlw1 : bin = true → (wrapS bin (T.many 2 ts).sig).length = (T.many 2 ts).sig.length + 2 := fun h => by rw [hw1 h, List.length_append, List.length_append]; show 1 + _ + 1 = _; omega
  have hsp := T.size_pos (T.many 2 ts)
  have hrl := rootsL_len ts b
  have hsl : (T.many 2 ts).sig.length = (T.sigL 2 true ts).length := rfl
  refine hfun_of Tryd.func50 rfl (by kernel_rfl) _ _ _ _ rfl 158 rfl rfl (fun X ok hX => ?_)
  refine hw_seq (fun Nh1 h1 => ?_)
  refine srg fun N h2 => ?_
  refine stm rfl rfl rfl ?_
  refine snl h2 ?_
  refine hw_cond _ rfl (fun hc0 => ?_) (fun hc0 => ?_)
  · have hr0 := hc0; (try simp only [hcs, Int.reduceToNat] at hc0)
    have ho1 : (out ++ [(⟨2, 0, 0, 0, []⟩ : Sg)]).length = out.length + 1 := (by simp); have hlw := hlw1 hc0
    refine hw_region ?_
    refine stm rfl rfl rfl ?_
    refine stm rfl rfl rfl ?_
    refine st0 (hop_nilcheck_pt rfl) rfl rfl ?_
    refine st0 (hop_fa fd_88_1 rfl) rfl rfl ?_
    refine st1 (hol_load ty_86 rfl (nb rfl) (nb rfl) (fun h => (by rfl))) rfl rfl rfl ?_
    refine st0 (hop_build (hs := [(0, 1, _)]) st_108 rfl rfl ⟨rfl, rfl, rfl, rfl, rfl, trivial⟩) rfl rfl ?_
    refine hm_1 18 (hop_buildSlice (id := 18) (hs := [_]) ei_86 (nb rfl) rfl (nb rfl) ⟨rfl, rfl, rfl, rfl, trivial⟩) rfl rfl pre0 rfl rfl (c' := c + 1) rfl ?_
    refine hm_1 19 (hol_append ei_86 (nb rfl) rfl (by omega) (nb rfl) (srl_os0 rfl (nb rfl)) (by omega) rfl) rfl rfl (preC rfl (pre1 rfl)) rfl rfl (c' := c + 2) rfl ?_
    refine st0 (hop_nilcheck_pt rfl) rfl rfl ?_
    refine st0 (hop_fa fd_88_1 rfl) rfl rfl ?_
    refine hm_s1 (hol_store ty_86 rfl rfl rfl rfl (nb rfl) (nb rfl) (nb rfl)) rfl rfl (pre1 rfl) (c' := c + 3) rfl ?_
    refine snl h1 ?_
    refine hw_seq (fun Nh3 h3 => ?_)
    refine (hsub_ob 9001 (shO g e (c + 1) (out ++ [(⟨2, 0, 0, 0, []⟩ : Sg)]).length) rfl (by exact osub2 (.refl _) (sb_os (by first | (simp; done) | (simp; omega))))).wp ?_; refine (hsub_ob 9002 (sgsO (c + 1) (out ++ [(⟨2, 0, 0, 0, []⟩ : Sg)])) rfl (by exact (osub_snoc (enc := sgF) (d := default) (x := (⟨2, 0, 0, 0, []⟩ : Sg)) (out := out) rfl (fun i j _ _ => .refl _) (sb_sg5 (.refl _) (.refl _) (.refl _) (.refl _) (.refl _))))).wp ?_
    refine hw_region ?_
    refine stm rfl rfl rfl ?_
    refine st0 (hop_nilcheck_pt rfl) rfl rfl ?_
    refine st0 (hop_fa fd_88_0 rfl) rfl rfl ?_
    refine st1 (hol_load ty_49 rfl (nb rfl) (nb rfl) (fun h => (by rfl))) rfl rfl rfl ?_
    refine stm rfl rfl rfl ?_
    refine st0 (hop_ia_sl el_49 rfl rfl (by omega) (by omega) (nb rfl)) rfl rfl ?_
    refine st0 (HOp.val (v' := ptH (⟨2, 0, 0, [], rootsL b ts⟩)) (hop_load_fp ty_75 rfl (nb rfl) (fun h => (by cases h))) (pt_at (by omega) htop.1)) rfl rfl ?_
    refine hm_1 6 (hop_alloc (id := 6) (sz := 5) zc_75 rfl rfl (nb rfl) (nb rfl)) rfl rfl pre0 rfl rfl (c' := c + 4) rfl ?_
    refine hm_s1 (hol_storeW ty_75 rfl rfl rfl rfl) rfl rfl (pre1 rfl) (c' := c + 5) rfl ?_
    refine snl h3 ?_
    refine hw_seq (fun Nh4 h4 => ?_)
    refine srg fun N h5 => ?_
    refine st0 (hop_fa fd_75_0 rfl) rfl rfl ?_
    refine st1 (hol_load ty_3 rfl (nb rfl) (nb rfl) (fun h => (by rfl))) rfl rfl rfl ?_
    refine snl h5 ?_
    refine hw_block ?_
    refine srg fun N h6 => ?_
    refine st0 (hop_eql rfl rfl) rfl rfl ?_
    refine sta rfl rfl rfl ?_
    refine snl h6 ?_
    refine hw_cond _ rfl (fun hc1 => ?_) (fun hc1 => ?_)
    · have hr1 := hc1; (try simp only [hcs, Int.reduceToNat] at hc1)
      exfalso; simp at hr1
    have hr1 := hc1; (try simp only [hcs, Int.reduceToNat] at hc1)
    refine srg fun N h7 => ?_
    refine st0 (hop_eql rfl rfl) rfl rfl ?_
    refine sta rfl rfl rfl ?_
    refine snl h7 ?_
    refine hw_cond _ rfl (fun hc2 => ?_) (fun hc2 => ?_)
    · have hr2 := hc2; (try simp only [hcs, Int.reduceToNat] at hc2)
      refine hw_seq (fun Nh8 h8 => ?_)
      obtain ⟨o1, ho⟩ : ∃ o, o = (out ++ [(⟨2, 0, 0, 0, []⟩ : Sg)]) := ⟨_, rfl⟩; rw [← ho]; have hlo : o1.length = out.length + 1 := (by rw [ho]; exact ho1); obtain ⟨gi, hgi⟩ : ∃ x, x = c + 1 := ⟨_, rfl⟩; rw [← hgi]
      refine hw_region ?_
      refine st0 (hop_fa fd_75_4 rfl) rfl rfl ?_
      refine st1 (hol_load ty_44 rfl (nb rfl) (nb rfl) (fun h => (by rfl))) rfl rfl rfl ?_
      refine st0 (hop_len_sl (T := 44) rfl (elOf_spec el_44).1 rfl) rfl rfl ?_
      refine stm rfl rfl rfl ?_
      refine snl h8 ?_
      refine hw_block ?_
      refine hw_loopc (α := Nat × List Sg × Nat) (fun x c => ⟨158, [(0, .v (.pt 9001 g 0 0)), (2, .v (boolV bin)), (48, .v (kidsV (rootsL b ts))), (49, .v (intV (rootsL b ts).length)), (50, .v (intV x.1))], [(9001, shO g e x.2.2 x.2.1.length), (9002, sgsO x.2.2 x.2.1)], c⟩) (fun x => x.1 ≤ ts.length ∧ x.2.1 = o1 ++ T.sigL 2 true (ts.take x.1)) (fun x => ts.length - x.1) ((0, o1, gi)) (by exact ⟨Nat.zero_le _, by simp [T.sigL]⟩) (hsub_of rfl (Nat.le_refl _) (TmSub.cons rfl (Sb.refl _) (TmSub.cons rfl (Sb.refl _) (TmSub.cons rfl (Sb.refl _) (TmSub.cons rfl (Sb.refl _) (TmSub.cons rfl (Sb.refl _) TmSub.nil))))) (HpSub.cons rfl (OSub.refl _) (HpSub.cons rfl (OSub.refl _) HpSub.nil))) (fun x c hx NhL9 hL9 => ?_)
      revert hx hL9; obtain ⟨i, o, gg⟩ := x; intro hx hL9; dsimp only at hx hL9 ⊢
      obtain ⟨hi, hoo⟩ := hx
      have hol := kids_len hok (i := i) (k := 2) hi; have hol2 : o.length = o1.length + (T.sigL 2 true (ts.take i)).length := (by rw [hoo, List.length_append])
      refine srg fun N h10 => ?_
      refine st0 (hop_lss rfl rfl) rfl rfl ?_
      refine snl h10 ?_
      refine hw_seq (fun Nh11 h11 => ?_)
      refine hw_cond _ rfl (fun hc3 => ?_) (fun hc3 => ?_)
      · have hr3 := hc3; (try simp only [hcs, Int.reduceToNat] at hc3)
        have him : i < ts.length := (by omega); have hka := at_kid hat him; have hkt := at_top hka; have hkk : (e.getD (b + T.sizeL (ts.take i) + (ts.getD i default).size - 1) default).kind = (ts.getD i default).kind := (by rw [hkt.1, top_kind]); have hks := (ts.getD i default).size_pos; have hkn := kid_next_len (k := 2) him
        refine hw_skip ?_
        refine h11 _ ?_
        refine hw_seq (fun Nh12 h12 => ?_)
        refine hw_block ?_
        refine srg fun N h13 => ?_
        refine st0 (hop_ia_sl el_44 rfl rfl (by omega) (by omega) (nb rfl)) rfl rfl ?_
        refine st0 (HOp.val (v' := intV ((b + T.sizeL (ts.take i) + (ts.getD i default).size - 1 : Nat) : Int)) (hop_load_fp ty_3 rfl (nb rfl) (fun h => (by rfl))) (by exact kids_at (i := i) (by omega) (by rw [roots_get ts b i him]; unfold T.root; omega))) rfl rfl ?_
        refine sta rfl rfl rfl ?_
        refine snl h13 ?_
        refine hw_region ?_
        refine stm rfl rfl rfl ?_
        refine stm rfl rfl rfl ?_
        refine stm rfl rfl rfl ?_
        refine st0 (hop_nilcheck_pt rfl) rfl rfl ?_
        refine st0 (hop_fa fd_88_0 rfl) rfl rfl ?_
        refine st1 (hol_load ty_49 rfl (nb rfl) (nb rfl) (fun h => (by rfl))) rfl rfl rfl ?_
        refine stm rfl rfl rfl ?_
        refine st0 (hop_ia_sl el_49 rfl rfl (by omega) (by omega) (nb rfl)) rfl rfl ?_
        refine st0 (hop_fa_fp fd_75_0 rfl (nb rfl)) rfl rfl ?_
        refine st0 (HOp.val (v' := intV (ts.getD i default).kind) (hop_load_fp ty_3 rfl (nb rfl) (fun h => (by rfl))) (kind_at (by omega) hkk)) rfl rfl ?_
        refine st0 (hop_eql rfl rfl) rfl rfl ?_
        refine stm rfl rfl rfl ?_
        refine stg 65 (fun hb => hop_move rfl) rfl rfl rfl rfl rfl ?_
        refine stg 65 (fun hb => hop_nilcheck_pt rfl) rfl rfl rfl rfl rfl ?_
        refine stg 65 (fun hb => hop_fa fd_88_0 rfl) rfl rfl rfl rfl rfl ?_
        refine hq_g 69 11 65 false _ (fun hb => hol_load ty_49 rfl (nb rfl) (nb rfl) (fun h => (by rfl))) rfl rfl rfl rfl (pre1 rfl) rfl rfl rfl ?_
        refine stg 65 (fun hb => hop_move rfl) rfl rfl rfl rfl rfl ?_
        refine stg 65 (fun hb => hop_ia_sl el_49 rfl rfl (by (simp at hb; first | omega | (dsimp only; omega) | (simp <;> omega))) (by (simp at hb; first | omega | (dsimp only; omega) | (simp <;> omega))) (nb rfl)) rfl rfl rfl rfl rfl ?_
        refine stg 65 (fun hb => hop_fa_fp fd_75_0 rfl (nb rfl)) rfl rfl rfl rfl rfl ?_
        refine stg 65 (fun hb => HOp.val (v' := intV (ts.getD i default).kind) (hop_load_fp ty_3 rfl (nb rfl) (fun h => (by rfl))) (kind_at (by omega) hkk)) rfl rfl rfl rfl rfl ?_
        refine stg 65 (fun hb => hop_eql rfl rfl) rfl rfl rfl rfl rfl ?_
        refine hq_p 75 (hstep_or _ _ rfl rfl rfl) rfl rfl rfl ?_
        refine hf_callR 76 (xs := [_, _, _]) (pre := [(9001, _), (9002, _)]) (ih i him _ g gg o (inB 2 (ts.getD i default).kind) (by omega)) ⟨rfl, ⟨rfl, ⟨rfl, trivial⟩⟩⟩ (preC rfl (preC rfl pre0)) rfl rfl (fun g3 c1 hx1 => ?_)
        (try dsimp only)
        refine hseq_nilU (by rfl) (by simp only [dropUn, slots]; exact rfl) ?_
        refine hq_block ?_
        refine h12 _ ?_
        refine hw_region ?_
        refine st0 (hop_addi rfl rfl rfl (by omega) (by omega)) rfl rfl ?_
        refine stm rfl rfl rfl ?_
        refine hseq_nil ?_
        exact hL9 ((i + 1, o ++ wrapS (inB 2 (ts.getD i default).kind) (ts.getD i default).sig, g3)) _ _ (by (try dsimp only); exact ⟨him, by rw [hoo, sigL_take 2 ts i him, List.append_assoc]; rfl⟩) (by (try dsimp only); omega) (hsub_of rfl (Nat.le_refl _) (TmSub.cons rfl (Sb.refl _) (TmSub.cons rfl (Sb.refl _) (TmSub.cons rfl (Sb.refl _) (TmSub.cons rfl (Sb.refl _) (TmSub.cons rfl (Sb.refl _) TmSub.nil))))) (HpSub.cons rfl (OSub.refl _) (HpSub.cons rfl (OSub.refl _) HpSub.nil)))
      have hr3 := hc3; (try simp only [hcs, Int.reduceToNat] at hc3)
      have hit : i = ts.length := (by omega)
      refine hw_exit ?_
      refine hq_then_exit ?_
      refine hq_then_exit ?_
      refine hq_block_here ?_
      refine hq_block ?_
      refine h4 _ ?_
      refine srg fun N h14 => ?_
      refine stm rfl rfl rfl ?_
      refine snl h14 ?_
      refine hw_cond _ rfl (fun hc8 => ?_) (fun hc8 => ?_)
      · have hr8 := hc8; (try simp only [hcs, Int.reduceToNat] at hc8)
        refine hw_region ?_
        refine stm rfl rfl rfl ?_
        refine stm rfl rfl rfl ?_
        refine st0 (hop_nilcheck_pt rfl) rfl rfl ?_
        refine st0 (hop_fa fd_88_1 rfl) rfl rfl ?_
        refine st1 (hol_load ty_86 rfl (nb rfl) (nb rfl) (fun h => (by rfl))) rfl rfl rfl ?_
        refine st0 (hop_build (hs := [(0, 1, _)]) st_108 rfl rfl ⟨rfl, rfl, rfl, rfl, rfl, trivial⟩) rfl rfl ?_
        refine hm_1 154 (hop_buildSlice (id := 154) (hs := [_]) ei_86 (nb rfl) rfl (nb rfl) ⟨rfl, rfl, rfl, rfl, trivial⟩) rfl rfl pre0 rfl rfl (c' := c + 1) rfl ?_
        refine hm_1 155 (hol_append ei_86 (nb rfl) rfl (by omega) (nb rfl) (srl_os0 rfl (nb rfl)) (by omega) rfl) rfl rfl (preC rfl (pre1 rfl)) rfl rfl (c' := c + 2) rfl ?_
        refine st0 (hop_nilcheck_pt rfl) rfl rfl ?_
        refine st0 (hop_fa fd_88_1 rfl) rfl rfl ?_
        refine hm_s1 (hol_store ty_86 rfl rfl rfl rfl (nb rfl) (nb rfl) (nb rfl)) rfl rfl (pre1 rfl) (c' := c + 3) rfl ?_
        refine hseq_nil ?_
        refine hq_fall ?_
        refine hf_retR0 ok hX RetS.one rfl  [] rfl pre0 ((c + 1)) (trivial) (by rfl) (by rfl) ((by first | exact .fz _ _ (.imm _) | exact .os _ _ _ _ _ rfl rfl | exact .pt _ _ _ _ _ rfl rfl | exact .nps _ _ _ rfl rfl | (dsimp only; exact .fz _ _ Frz.fz) | exact .fz _ _ (.tup 0 _ _ (fun i hi => absurd hi (Nat.not_lt_zero _))))) ?_
        exact ⟨⟨_, rfl, okz2 (.fz _ _ (show Fz [] (ptsV e) (ptsV e) from Frz.fz)) (kz_os rfl rfl (by rw [hw1 hc8, hoo, hit, List.take_length, ho]; simp [T.sig]; omega))⟩, ⟨⟨_, rfl, okz_sgn (x := (⟨3, 0, 0, 0, []⟩ : Sg)) (by rw [hw1 hc8, hoo, hit, List.take_length, ho]; simp [T.sig])⟩, trivial⟩⟩
      have hr8 := hc8; (try simp only [hcs, Int.reduceToNat] at hc8)
      exfalso; rw [hc0] at hr8; cases hr8
    have hr2 := hc2; (try simp only [hcs, Int.reduceToNat] at hc2)
    exfalso; simp at hr2
  have hr0 := hc0; (try simp only [hcs, Int.reduceToNat] at hc0)
  have hlw := congrArg List.length (hw0 hc0)
  refine hw_skip ?_
  refine h1 _ ?_
  refine srg fun N h15 => ?_
  refine stm rfl rfl rfl ?_
  refine st0 (hop_nilcheck_pt rfl) rfl rfl ?_
  refine st0 (hop_fa fd_88_0 rfl) rfl rfl ?_
  refine st1 (hol_load ty_49 rfl (nb rfl) (nb rfl) (fun h => (by rfl))) rfl rfl rfl ?_
  refine stm rfl rfl rfl ?_
  refine st0 (hop_ia_sl el_49 rfl rfl (by omega) (by omega) (nb rfl)) rfl rfl ?_
  refine st0 (HOp.val (v' := ptH (⟨2, 0, 0, [], rootsL b ts⟩)) (hop_load_fp ty_75 rfl (nb rfl) (fun h => (by cases h))) (pt_at (by omega) htop.1)) rfl rfl ?_
  refine hm_1 6 (hop_alloc (id := 6) (sz := 5) zc_75 rfl rfl (nb rfl) (nb rfl)) rfl rfl pre0 rfl rfl (c' := c + 1) rfl ?_
  refine hm_s1 (hol_storeW ty_75 rfl rfl rfl rfl) rfl rfl (pre1 rfl) (c' := c + 2) rfl ?_
  refine snl h15 ?_
  refine hw_seq (fun Nh16 h16 => ?_)
  refine srg fun N h17 => ?_
  refine st0 (hop_fa fd_75_0 rfl) rfl rfl ?_
  refine st1 (hol_load ty_3 rfl (nb rfl) (nb rfl) (fun h => (by rfl))) rfl rfl rfl ?_
  refine snl h17 ?_
  refine hw_block ?_
  refine srg fun N h18 => ?_
  refine st0 (hop_eql rfl rfl) rfl rfl ?_
  refine sta rfl rfl rfl ?_
  refine snl h18 ?_
  refine hw_cond _ rfl (fun hc1 => ?_) (fun hc1 => ?_)
  · have hr1 := hc1; (try simp only [hcs, Int.reduceToNat] at hc1)
    exfalso; simp at hr1
  have hr1 := hc1; (try simp only [hcs, Int.reduceToNat] at hc1)
  refine srg fun N h19 => ?_
  refine st0 (hop_eql rfl rfl) rfl rfl ?_
  refine sta rfl rfl rfl ?_
  refine snl h19 ?_
  refine hw_cond _ rfl (fun hc2 => ?_) (fun hc2 => ?_)
  · have hr2 := hc2; (try simp only [hcs, Int.reduceToNat] at hc2)
    refine hw_seq (fun Nh20 h20 => ?_)
    obtain ⟨o1, ho⟩ : ∃ o, o = out := ⟨_, rfl⟩; rw [← ho]; have hlo : o1.length = out.length := (by rw [ho]); obtain ⟨gi, hgi⟩ : ∃ x, x = g2 := ⟨_, rfl⟩; rw [← hgi]
    refine hw_region ?_
    refine st0 (hop_fa fd_75_4 rfl) rfl rfl ?_
    refine st1 (hol_load ty_44 rfl (nb rfl) (nb rfl) (fun h => (by rfl))) rfl rfl rfl ?_
    refine st0 (hop_len_sl (T := 44) rfl (elOf_spec el_44).1 rfl) rfl rfl ?_
    refine stm rfl rfl rfl ?_
    refine snl h20 ?_
    refine hw_block ?_
    refine hw_loopc (α := Nat × List Sg × Nat) (fun x c => ⟨158, [(0, .v (.pt 9001 g 0 0)), (2, .v (boolV bin)), (48, .v (kidsV (rootsL b ts))), (49, .v (intV (rootsL b ts).length)), (50, .v (intV x.1))], [(9001, shO g e x.2.2 x.2.1.length), (9002, sgsO x.2.2 x.2.1)], c⟩) (fun x => x.1 ≤ ts.length ∧ x.2.1 = o1 ++ T.sigL 2 true (ts.take x.1)) (fun x => ts.length - x.1) ((0, o1, gi)) (by exact ⟨Nat.zero_le _, by simp [T.sigL]⟩) (hsub_of rfl (Nat.le_refl _) (TmSub.cons rfl (Sb.refl _) (TmSub.cons rfl (Sb.refl _) (TmSub.cons rfl (Sb.refl _) (TmSub.cons rfl (Sb.refl _) (TmSub.cons rfl (Sb.refl _) TmSub.nil))))) (HpSub.cons rfl (OSub.refl _) (HpSub.cons rfl (OSub.refl _) HpSub.nil))) (fun x c hx NhL21 hL21 => ?_)
    revert hx hL21; obtain ⟨i, o, gg⟩ := x; intro hx hL21; dsimp only at hx hL21 ⊢
    obtain ⟨hi, hoo⟩ := hx
    have hol := kids_len hok (i := i) (k := 2) hi; have hol2 : o.length = o1.length + (T.sigL 2 true (ts.take i)).length := (by rw [hoo, List.length_append])
    refine srg fun N h22 => ?_
    refine st0 (hop_lss rfl rfl) rfl rfl ?_
    refine snl h22 ?_
    refine hw_seq (fun Nh23 h23 => ?_)
    refine hw_cond _ rfl (fun hc3 => ?_) (fun hc3 => ?_)
    · have hr3 := hc3; (try simp only [hcs, Int.reduceToNat] at hc3)
      have him : i < ts.length := (by omega); have hka := at_kid hat him; have hkt := at_top hka; have hkk : (e.getD (b + T.sizeL (ts.take i) + (ts.getD i default).size - 1) default).kind = (ts.getD i default).kind := (by rw [hkt.1, top_kind]); have hks := (ts.getD i default).size_pos; have hkn := kid_next_len (k := 2) him
      refine hw_skip ?_
      refine h23 _ ?_
      refine hw_seq (fun Nh24 h24 => ?_)
      refine hw_block ?_
      refine srg fun N h25 => ?_
      refine st0 (hop_ia_sl el_44 rfl rfl (by omega) (by omega) (nb rfl)) rfl rfl ?_
      refine st0 (HOp.val (v' := intV ((b + T.sizeL (ts.take i) + (ts.getD i default).size - 1 : Nat) : Int)) (hop_load_fp ty_3 rfl (nb rfl) (fun h => (by rfl))) (by exact kids_at (i := i) (by omega) (by rw [roots_get ts b i him]; unfold T.root; omega))) rfl rfl ?_
      refine sta rfl rfl rfl ?_
      refine snl h25 ?_
      refine hw_region ?_
      refine stm rfl rfl rfl ?_
      refine stm rfl rfl rfl ?_
      refine stm rfl rfl rfl ?_
      refine st0 (hop_nilcheck_pt rfl) rfl rfl ?_
      refine st0 (hop_fa fd_88_0 rfl) rfl rfl ?_
      refine st1 (hol_load ty_49 rfl (nb rfl) (nb rfl) (fun h => (by rfl))) rfl rfl rfl ?_
      refine stm rfl rfl rfl ?_
      refine st0 (hop_ia_sl el_49 rfl rfl (by omega) (by omega) (nb rfl)) rfl rfl ?_
      refine st0 (hop_fa_fp fd_75_0 rfl (nb rfl)) rfl rfl ?_
      refine st0 (HOp.val (v' := intV (ts.getD i default).kind) (hop_load_fp ty_3 rfl (nb rfl) (fun h => (by rfl))) (kind_at (by omega) hkk)) rfl rfl ?_
      refine st0 (hop_eql rfl rfl) rfl rfl ?_
      refine stm rfl rfl rfl ?_
      refine stg 65 (fun hb => hop_move rfl) rfl rfl rfl rfl rfl ?_
      refine stg 65 (fun hb => hop_nilcheck_pt rfl) rfl rfl rfl rfl rfl ?_
      refine stg 65 (fun hb => hop_fa fd_88_0 rfl) rfl rfl rfl rfl rfl ?_
      refine hq_g 69 11 65 false _ (fun hb => hol_load ty_49 rfl (nb rfl) (nb rfl) (fun h => (by rfl))) rfl rfl rfl rfl (pre1 rfl) rfl rfl rfl ?_
      refine stg 65 (fun hb => hop_move rfl) rfl rfl rfl rfl rfl ?_
      refine stg 65 (fun hb => hop_ia_sl el_49 rfl rfl (by (simp at hb; first | omega | (dsimp only; omega) | (simp <;> omega))) (by (simp at hb; first | omega | (dsimp only; omega) | (simp <;> omega))) (nb rfl)) rfl rfl rfl rfl rfl ?_
      refine stg 65 (fun hb => hop_fa_fp fd_75_0 rfl (nb rfl)) rfl rfl rfl rfl rfl ?_
      refine stg 65 (fun hb => HOp.val (v' := intV (ts.getD i default).kind) (hop_load_fp ty_3 rfl (nb rfl) (fun h => (by rfl))) (kind_at (by omega) hkk)) rfl rfl rfl rfl rfl ?_
      refine stg 65 (fun hb => hop_eql rfl rfl) rfl rfl rfl rfl rfl ?_
      refine hq_p 75 (hstep_or _ _ rfl rfl rfl) rfl rfl rfl ?_
      refine hf_callR 76 (xs := [_, _, _]) (pre := [(9001, _), (9002, _)]) (ih i him _ g gg o (inB 2 (ts.getD i default).kind) (by omega)) ⟨rfl, ⟨rfl, ⟨rfl, trivial⟩⟩⟩ (preC rfl (preC rfl pre0)) rfl rfl (fun g3 c2 hx2 => ?_)
      (try dsimp only)
      refine hseq_nilU (by rfl) (by simp only [dropUn, slots]; exact rfl) ?_
      refine hq_block ?_
      refine h24 _ ?_
      refine hw_region ?_
      refine st0 (hop_addi rfl rfl rfl (by omega) (by omega)) rfl rfl ?_
      refine stm rfl rfl rfl ?_
      refine hseq_nil ?_
      exact hL21 ((i + 1, o ++ wrapS (inB 2 (ts.getD i default).kind) (ts.getD i default).sig, g3)) _ _ (by (try dsimp only); exact ⟨him, by rw [hoo, sigL_take 2 ts i him, List.append_assoc]; rfl⟩) (by (try dsimp only); omega) (hsub_of rfl (Nat.le_refl _) (TmSub.cons rfl (Sb.refl _) (TmSub.cons rfl (Sb.refl _) (TmSub.cons rfl (Sb.refl _) (TmSub.cons rfl (Sb.refl _) (TmSub.cons rfl (Sb.refl _) TmSub.nil))))) (HpSub.cons rfl (OSub.refl _) (HpSub.cons rfl (OSub.refl _) HpSub.nil)))
    have hr3 := hc3; (try simp only [hcs, Int.reduceToNat] at hc3)
    have hit : i = ts.length := (by omega)
    refine hw_exit ?_
    refine hq_then_exit ?_
    refine hq_then_exit ?_
    refine hq_block_here ?_
    refine hq_block ?_
    refine h16 _ ?_
    refine srg fun N h26 => ?_
    refine stm rfl rfl rfl ?_
    refine snl h26 ?_
    refine hw_cond _ rfl (fun hc8 => ?_) (fun hc8 => ?_)
    · have hr8 := hc8; (try simp only [hcs, Int.reduceToNat] at hc8)
      exfalso; rw [hc0] at hr8; cases hr8
    have hr8 := hc8; (try simp only [hcs, Int.reduceToNat] at hc8)
    refine hw_skip ?_
    refine hq_fall ?_
    refine hf_retR0 ok hX RetS.one rfl  [] rfl pre0 (gg) (trivial) (by rfl) (by rfl) ((by first | exact .fz _ _ (.imm _) | exact .os _ _ _ _ _ rfl rfl | exact .pt _ _ _ _ _ rfl rfl | exact .nps _ _ _ rfl rfl | (dsimp only; exact .fz _ _ Frz.fz) | exact .fz _ _ (.tup 0 _ _ (fun i hi => absurd hi (Nat.not_lt_zero _))))) ?_
    exact ⟨⟨_, rfl, okz_sh rfl rfl (by rw [hw0 hc8, hoo, hit, List.take_length, ho]; rfl)⟩, ⟨⟨_, rfl, okz_sgs (by rw [hw0 hc8, hoo, hit, List.take_length, ho]; rfl)⟩, trivial⟩⟩
  have hr2 := hc2; (try simp only [hcs, Int.reduceToNat] at hc2)
  exfalso; simp at hr2
theorem lay_choice (e : List Pt) (b : Nat) (he : e.length ≤ 100000) (ts : List T) (hok : T.okL ts = true) (hts : ts.length ≤ 100000) (ih : ∀ i, i < ts.length → LayC e (b + T.sizeL (ts.take i)) (ts.getD i default)) (hat : AtP e b (T.flat b (T.many 3 ts))) : LayC e b (T.many 3 ts) := by
  intro c g g2 out bin hb
  have htop := at_top hat
  have hwl := wrap_len bin (T.many 3 ts).sig
  have hw1 : bin = true → wrapS bin (T.many 3 ts).sig = [(⟨2, 0, 0, 0, []⟩ : Sg)] ++ (T.many 3 ts).sig ++ [(⟨3, 0, 0, 0, []⟩ : Sg)] := fun h => by rw [h]; rfl
  have hw0 : bin = false → wrapS bin (T.many 3 ts).sig = (T.many 3 ts).sig := fun h => by rw [h]; rfl
  have hlw1 : bin = true → (wrapS bin (T.many 3 ts).sig).length = (T.many 3 ts).sig.length + 2 := fun h => by rw [hw1 h, List.length_append, List.length_append]; show 1 + _ + 1 = _; omega
  have hsp := T.size_pos (T.many 3 ts)
  have hrl := rootsL_len ts b
  have hsl : (T.many 3 ts).sig.length = (T.sigL 3 true ts).length := rfl
  refine hfun_of Tryd.func50 rfl (by kernel_rfl) _ _ _ _ rfl 158 rfl rfl (fun X ok hX => ?_)
  refine hw_seq (fun Nh1 h1 => ?_)
  refine srg fun N h2 => ?_
  refine stm rfl rfl rfl ?_
  refine snl h2 ?_
  refine hw_cond _ rfl (fun hc0 => ?_) (fun hc0 => ?_)
  · have hr0 := hc0; (try simp only [hcs, Int.reduceToNat] at hc0)
    have ho1 : (out ++ [(⟨2, 0, 0, 0, []⟩ : Sg)]).length = out.length + 1 := (by simp); have hlw := hlw1 hc0
    refine hw_region ?_
    refine stm rfl rfl rfl ?_
    refine stm rfl rfl rfl ?_
    refine st0 (hop_nilcheck_pt rfl) rfl rfl ?_
    refine st0 (hop_fa fd_88_1 rfl) rfl rfl ?_
    refine st1 (hol_load ty_86 rfl (nb rfl) (nb rfl) (fun h => (by rfl))) rfl rfl rfl ?_
    refine st0 (hop_build (hs := [(0, 1, _)]) st_108 rfl rfl ⟨rfl, rfl, rfl, rfl, rfl, trivial⟩) rfl rfl ?_
    refine hm_1 18 (hop_buildSlice (id := 18) (hs := [_]) ei_86 (nb rfl) rfl (nb rfl) ⟨rfl, rfl, rfl, rfl, trivial⟩) rfl rfl pre0 rfl rfl (c' := c + 1) rfl ?_
    refine hm_1 19 (hol_append ei_86 (nb rfl) rfl (by omega) (nb rfl) (srl_os0 rfl (nb rfl)) (by omega) rfl) rfl rfl (preC rfl (pre1 rfl)) rfl rfl (c' := c + 2) rfl ?_
    refine st0 (hop_nilcheck_pt rfl) rfl rfl ?_
    refine st0 (hop_fa fd_88_1 rfl) rfl rfl ?_
    refine hm_s1 (hol_store ty_86 rfl rfl rfl rfl (nb rfl) (nb rfl) (nb rfl)) rfl rfl (pre1 rfl) (c' := c + 3) rfl ?_
    refine snl h1 ?_
    refine hw_seq (fun Nh3 h3 => ?_)
    refine (hsub_ob 9001 (shO g e (c + 1) (out ++ [(⟨2, 0, 0, 0, []⟩ : Sg)]).length) rfl (by exact osub2 (.refl _) (sb_os (by first | (simp; done) | (simp; omega))))).wp ?_; refine (hsub_ob 9002 (sgsO (c + 1) (out ++ [(⟨2, 0, 0, 0, []⟩ : Sg)])) rfl (by exact (osub_snoc (enc := sgF) (d := default) (x := (⟨2, 0, 0, 0, []⟩ : Sg)) (out := out) rfl (fun i j _ _ => .refl _) (sb_sg5 (.refl _) (.refl _) (.refl _) (.refl _) (.refl _))))).wp ?_
    refine hw_region ?_
    refine stm rfl rfl rfl ?_
    refine st0 (hop_nilcheck_pt rfl) rfl rfl ?_
    refine st0 (hop_fa fd_88_0 rfl) rfl rfl ?_
    refine st1 (hol_load ty_49 rfl (nb rfl) (nb rfl) (fun h => (by rfl))) rfl rfl rfl ?_
    refine stm rfl rfl rfl ?_
    refine st0 (hop_ia_sl el_49 rfl rfl (by omega) (by omega) (nb rfl)) rfl rfl ?_
    refine st0 (HOp.val (v' := ptH (⟨3, 0, 0, [], rootsL b ts⟩)) (hop_load_fp ty_75 rfl (nb rfl) (fun h => (by cases h))) (pt_at (by omega) htop.1)) rfl rfl ?_
    refine hm_1 6 (hop_alloc (id := 6) (sz := 5) zc_75 rfl rfl (nb rfl) (nb rfl)) rfl rfl pre0 rfl rfl (c' := c + 4) rfl ?_
    refine hm_s1 (hol_storeW ty_75 rfl rfl rfl rfl) rfl rfl (pre1 rfl) (c' := c + 5) rfl ?_
    refine snl h3 ?_
    refine hw_seq (fun Nh4 h4 => ?_)
    refine srg fun N h5 => ?_
    refine st0 (hop_fa fd_75_0 rfl) rfl rfl ?_
    refine st1 (hol_load ty_3 rfl (nb rfl) (nb rfl) (fun h => (by rfl))) rfl rfl rfl ?_
    refine snl h5 ?_
    refine hw_block ?_
    refine srg fun N h6 => ?_
    refine st0 (hop_eql rfl rfl) rfl rfl ?_
    refine sta rfl rfl rfl ?_
    refine snl h6 ?_
    refine hw_cond _ rfl (fun hc1 => ?_) (fun hc1 => ?_)
    · have hr1 := hc1; (try simp only [hcs, Int.reduceToNat] at hc1)
      exfalso; simp at hr1
    have hr1 := hc1; (try simp only [hcs, Int.reduceToNat] at hc1)
    refine srg fun N h7 => ?_
    refine st0 (hop_eql rfl rfl) rfl rfl ?_
    refine sta rfl rfl rfl ?_
    refine snl h7 ?_
    refine hw_cond _ rfl (fun hc2 => ?_) (fun hc2 => ?_)
    · have hr2 := hc2; (try simp only [hcs, Int.reduceToNat] at hc2)
      exfalso; simp at hr2
    have hr2 := hc2; (try simp only [hcs, Int.reduceToNat] at hc2)
    refine srg fun N h8 => ?_
    refine st0 (hop_eql rfl rfl) rfl rfl ?_
    refine sta rfl rfl rfl ?_
    refine snl h8 ?_
    refine hw_cond _ rfl (fun hc4 => ?_) (fun hc4 => ?_)
    · have hr4 := hc4; (try simp only [hcs, Int.reduceToNat] at hc4)
      refine hw_seq (fun Nh9 h9 => ?_)
      obtain ⟨o1, ho⟩ : ∃ o, o = (out ++ [(⟨2, 0, 0, 0, []⟩ : Sg)]) := ⟨_, rfl⟩; rw [← ho]; have hlo : o1.length = out.length + 1 := (by rw [ho]; exact ho1); obtain ⟨gi, hgi⟩ : ∃ x, x = c + 1 := ⟨_, rfl⟩; rw [← hgi]
      refine hw_region ?_
      refine st0 (hop_fa fd_75_4 rfl) rfl rfl ?_
      refine st1 (hol_load ty_44 rfl (nb rfl) (nb rfl) (fun h => (by rfl))) rfl rfl rfl ?_
      refine st0 (hop_len_sl (T := 44) rfl (elOf_spec el_44).1 rfl) rfl rfl ?_
      refine stm rfl rfl rfl ?_
      refine snl h9 ?_
      refine hw_block ?_
      refine hw_loopc (α := Nat × List Sg × Nat) (fun x c => ⟨158, [(0, .v (.pt 9001 g 0 0)), (2, .v (boolV bin)), (81, .v (kidsV (rootsL b ts))), (82, .v (intV (rootsL b ts).length)), (83, .v (intV x.1))], [(9001, shO g e x.2.2 x.2.1.length), (9002, sgsO x.2.2 x.2.1)], c⟩) (fun x => x.1 ≤ ts.length ∧ x.2.1 = o1 ++ T.sigL 3 true (ts.take x.1)) (fun x => ts.length - x.1) ((0, o1, gi)) (by exact ⟨Nat.zero_le _, by simp [T.sigL]⟩) (hsub_of rfl (Nat.le_refl _) (TmSub.cons rfl (Sb.refl _) (TmSub.cons rfl (Sb.refl _) (TmSub.cons rfl (Sb.refl _) (TmSub.cons rfl (Sb.refl _) (TmSub.cons rfl (Sb.refl _) TmSub.nil))))) (HpSub.cons rfl (OSub.refl _) (HpSub.cons rfl (OSub.refl _) HpSub.nil))) (fun x c hx NhL10 hL10 => ?_)
      revert hx hL10; obtain ⟨i, o, gg⟩ := x; intro hx hL10; dsimp only at hx hL10 ⊢
      obtain ⟨hi, hoo⟩ := hx
      have hol := kids_len hok (i := i) (k := 3) hi; have hol2 : o.length = o1.length + (T.sigL 3 true (ts.take i)).length := (by rw [hoo, List.length_append])
      refine srg fun N h11 => ?_
      refine st0 (hop_lss rfl rfl) rfl rfl ?_
      refine snl h11 ?_
      refine hw_seq (fun Nh12 h12 => ?_)
      refine hw_cond _ rfl (fun hc5 => ?_) (fun hc5 => ?_)
      · have hr5 := hc5; (try simp only [hcs, Int.reduceToNat] at hc5)
        have him : i < ts.length := (by omega); have hka := at_kid hat him; have hkt := at_top hka; have hkk : (e.getD (b + T.sizeL (ts.take i) + (ts.getD i default).size - 1) default).kind = (ts.getD i default).kind := (by rw [hkt.1, top_kind]); have hks := (ts.getD i default).size_pos; have hkn := kid_next_len (k := 3) him
        refine hw_skip ?_
        refine h12 _ ?_
        refine hw_seq (fun Nh13 h13 => ?_)
        refine hw_block ?_
        refine srg fun N h14 => ?_
        refine stm rfl rfl rfl ?_
        refine st0 (hop_ia_sl el_44 rfl rfl (by omega) (by omega) (nb rfl)) rfl rfl ?_
        refine st0 (HOp.val (v' := intV ((b + T.sizeL (ts.take i) + (ts.getD i default).size - 1 : Nat) : Int)) (hop_load_fp ty_3 rfl (nb rfl) (fun h => (by rfl))) (by exact kids_at (i := i) (by omega) (by rw [roots_get ts b i him]; unfold T.root; omega))) rfl rfl ?_
        refine sta rfl rfl rfl ?_
        refine sta rfl rfl rfl ?_
        refine snl h14 ?_
        refine hw_seq (fun Nh15 h15 => ?_)
        refine srg fun N h16 => ?_
        refine stm rfl rfl rfl ?_
        refine st0 (hop_gtr rfl rfl) rfl rfl ?_
        refine snl h16 ?_
        refine hw_cond _ rfl (fun hc6 => ?_) (fun hc6 => ?_)
        · have hr6 := hc6; (try simp only [hcs, Int.reduceToNat] at hc6)
          have hor : (orS 3 (decide (i = 0))).length = 1 := (by rw [decide_eq_false (show ¬ i = 0 by omega)]; rfl); have hoa : (o ++ [(⟨4, 0, 0, 0, []⟩ : Sg)]).length = o.length + 1 := (by simp)
          refine hw_region ?_
          refine stm rfl rfl rfl ?_
          refine stm rfl rfl rfl ?_
          refine st0 (hop_nilcheck_pt rfl) rfl rfl ?_
          refine st0 (hop_fa fd_88_1 rfl) rfl rfl ?_
          refine st1 (hol_load ty_86 rfl (nb rfl) (nb rfl) (fun h => (by rfl))) rfl rfl rfl ?_
          refine st0 (hop_build (hs := [(0, 1, _)]) st_108 rfl rfl ⟨rfl, rfl, rfl, rfl, rfl, trivial⟩) rfl rfl ?_
          refine hm_1 96 (hop_buildSlice (id := 96) (hs := [_]) ei_86 (nb rfl) rfl (nb rfl) ⟨rfl, rfl, rfl, rfl, trivial⟩) rfl rfl pre0 rfl rfl (c' := c + 1) rfl ?_
          refine hm_1 97 (hol_append ei_86 (nb rfl) rfl (by omega) (nb rfl) (srl_os0 rfl (nb rfl)) (by omega) rfl) rfl rfl (preC rfl (pre1 rfl)) rfl rfl (c' := c + 2) rfl ?_
          refine st0 (hop_nilcheck_pt rfl) rfl rfl ?_
          refine st0 (hop_fa fd_88_1 rfl) rfl rfl ?_
          refine hm_s1 (hol_store ty_86 rfl rfl rfl rfl (nb rfl) (nb rfl) (nb rfl)) rfl rfl (pre1 rfl) (c' := c + 3) rfl ?_
          refine snl h15 ?_
          refine (hsub_ob 9001 (shO g e (c + 1) (o ++ [(⟨4, 0, 0, 0, []⟩ : Sg)]).length) rfl (by exact osub2 (.refl _) (sb_os (by first | (simp; done) | (simp; omega))))).wp ?_; refine (hsub_ob 9002 (sgsO (c + 1) (o ++ [(⟨4, 0, 0, 0, []⟩ : Sg)])) rfl (by exact (osub_snoc (enc := sgF) (d := default) (x := (⟨4, 0, 0, 0, []⟩ : Sg)) (out := o) rfl (fun i j _ _ => .refl _) (sb_sg5 (.refl _) (.refl _) (.refl _) (.refl _) (.refl _))))).wp ?_
          refine hw_region ?_
          refine stm rfl rfl rfl ?_
          refine stm rfl rfl rfl ?_
          refine stm rfl rfl rfl ?_
          refine st0 (hop_nilcheck_pt rfl) rfl rfl ?_
          refine st0 (hop_fa fd_88_0 rfl) rfl rfl ?_
          refine st1 (hol_load ty_49 rfl (nb rfl) (nb rfl) (fun h => (by rfl))) rfl rfl rfl ?_
          refine stm rfl rfl rfl ?_
          refine st0 (hop_ia_sl el_49 rfl rfl (by omega) (by omega) (nb rfl)) rfl rfl ?_
          refine st0 (hop_fa_fp fd_75_0 rfl (nb rfl)) rfl rfl ?_
          refine st0 (HOp.val (v' := intV (ts.getD i default).kind) (hop_load_fp ty_3 rfl (nb rfl) (fun h => (by rfl))) (kind_at (by omega) hkk)) rfl rfl ?_
          refine st0 (hop_eql rfl rfl) rfl rfl ?_
          refine hf_callR 111 (xs := [_, _, _]) (pre := [(9001, _), (9002, _)]) (ih i him _ g (c + 1) (o ++ [(⟨4, 0, 0, 0, []⟩ : Sg)]) (inB 3 (ts.getD i default).kind) (by omega)) ⟨rfl, ⟨rfl, ⟨rfl, trivial⟩⟩⟩ (preC rfl (preC rfl pre0)) rfl rfl (fun g3 c1 hx1 => ?_)
          (try dsimp only)
          refine hseq_nil ?_
          refine hq_block ?_
          refine h13 _ ?_
          refine hw_region ?_
          refine st0 (hop_addi rfl rfl rfl (by omega) (by omega)) rfl rfl ?_
          refine stm rfl rfl rfl ?_
          refine hseq_nil ?_
          exact hL10 ((i + 1, (o ++ [(⟨4, 0, 0, 0, []⟩ : Sg)]) ++ wrapS (inB 3 (ts.getD i default).kind) (ts.getD i default).sig, g3)) _ _ (by (try dsimp only); exact ⟨him, by rw [hoo, sigL_take 3 ts i him, decide_eq_false (show ¬ i = 0 by omega)]; simp [orS]⟩) (by (try dsimp only); omega) (hsub_of rfl (Nat.le_refl _) (TmSub.cons rfl (Sb.refl _) (TmSub.cons rfl (Sb.refl _) (TmSub.cons rfl (Sb.refl _) (TmSub.cons rfl (Sb.refl _) (TmSub.cons rfl (Sb.refl _) TmSub.nil))))) (HpSub.cons rfl (OSub.refl _) (HpSub.cons rfl (OSub.refl _) HpSub.nil)))
        have hr6 := hc6; (try simp only [hcs, Int.reduceToNat] at hc6)
        refine hw_skip ?_
        refine h15 _ ?_
        refine hw_region ?_
        refine stm rfl rfl rfl ?_
        refine stm rfl rfl rfl ?_
        refine stm rfl rfl rfl ?_
        refine st0 (hop_nilcheck_pt rfl) rfl rfl ?_
        refine st0 (hop_fa fd_88_0 rfl) rfl rfl ?_
        refine st1 (hol_load ty_49 rfl (nb rfl) (nb rfl) (fun h => (by rfl))) rfl rfl rfl ?_
        refine stm rfl rfl rfl ?_
        refine st0 (hop_ia_sl el_49 rfl rfl (by omega) (by omega) (nb rfl)) rfl rfl ?_
        refine st0 (hop_fa_fp fd_75_0 rfl (nb rfl)) rfl rfl ?_
        refine st0 (HOp.val (v' := intV (ts.getD i default).kind) (hop_load_fp ty_3 rfl (nb rfl) (fun h => (by rfl))) (kind_at (by omega) hkk)) rfl rfl ?_
        refine st0 (hop_eql rfl rfl) rfl rfl ?_
        refine hf_callR 111 (xs := [_, _, _]) (pre := [(9001, _), (9002, _)]) (ih i him _ g gg o (inB 3 (ts.getD i default).kind) (by omega)) ⟨rfl, ⟨rfl, ⟨rfl, trivial⟩⟩⟩ (preC rfl (preC rfl pre0)) rfl rfl (fun g3 c2 hx2 => ?_)
        (try dsimp only)
        refine hseq_nil ?_
        refine hq_block ?_
        refine h13 _ ?_
        refine hw_region ?_
        refine st0 (hop_addi rfl rfl rfl (by omega) (by omega)) rfl rfl ?_
        refine stm rfl rfl rfl ?_
        refine hseq_nil ?_
        exact hL10 ((i + 1, o ++ wrapS (inB 3 (ts.getD i default).kind) (ts.getD i default).sig, g3)) _ _ (by (try dsimp only); exact ⟨him, by rw [hoo, sigL_take 3 ts i him, decide_eq_true (show i = 0 by omega)]; simp [orS]⟩) (by (try dsimp only); omega) (hsub_of rfl (Nat.le_refl _) (TmSub.cons rfl (Sb.refl _) (TmSub.cons rfl (Sb.refl _) (TmSub.cons rfl (Sb.refl _) (TmSub.cons rfl (Sb.refl _) (TmSub.cons rfl (Sb.refl _) TmSub.nil))))) (HpSub.cons rfl (OSub.refl _) (HpSub.cons rfl (OSub.refl _) HpSub.nil)))
      have hr5 := hc5; (try simp only [hcs, Int.reduceToNat] at hc5)
      have hit : i = ts.length := (by omega)
      refine hw_exit ?_
      refine hq_then_exit ?_
      refine hq_then_exit ?_
      refine hq_block_here ?_
      refine hq_block ?_
      refine h4 _ ?_
      refine srg fun N h17 => ?_
      refine stm rfl rfl rfl ?_
      refine snl h17 ?_
      refine hw_cond _ rfl (fun hc8 => ?_) (fun hc8 => ?_)
      · have hr8 := hc8; (try simp only [hcs, Int.reduceToNat] at hc8)
        refine hw_region ?_
        refine stm rfl rfl rfl ?_
        refine stm rfl rfl rfl ?_
        refine st0 (hop_nilcheck_pt rfl) rfl rfl ?_
        refine st0 (hop_fa fd_88_1 rfl) rfl rfl ?_
        refine st1 (hol_load ty_86 rfl (nb rfl) (nb rfl) (fun h => (by rfl))) rfl rfl rfl ?_
        refine st0 (hop_build (hs := [(0, 1, _)]) st_108 rfl rfl ⟨rfl, rfl, rfl, rfl, rfl, trivial⟩) rfl rfl ?_
        refine hm_1 154 (hop_buildSlice (id := 154) (hs := [_]) ei_86 (nb rfl) rfl (nb rfl) ⟨rfl, rfl, rfl, rfl, trivial⟩) rfl rfl pre0 rfl rfl (c' := c + 1) rfl ?_
        refine hm_1 155 (hol_append ei_86 (nb rfl) rfl (by omega) (nb rfl) (srl_os0 rfl (nb rfl)) (by omega) rfl) rfl rfl (preC rfl (pre1 rfl)) rfl rfl (c' := c + 2) rfl ?_
        refine st0 (hop_nilcheck_pt rfl) rfl rfl ?_
        refine st0 (hop_fa fd_88_1 rfl) rfl rfl ?_
        refine hm_s1 (hol_store ty_86 rfl rfl rfl rfl (nb rfl) (nb rfl) (nb rfl)) rfl rfl (pre1 rfl) (c' := c + 3) rfl ?_
        refine hseq_nil ?_
        refine hq_fall ?_
        refine hf_retR0 ok hX RetS.one rfl  [] rfl pre0 ((c + 1)) (trivial) (by rfl) (by rfl) ((by first | exact .fz _ _ (.imm _) | exact .os _ _ _ _ _ rfl rfl | exact .pt _ _ _ _ _ rfl rfl | exact .nps _ _ _ rfl rfl | (dsimp only; exact .fz _ _ Frz.fz) | exact .fz _ _ (.tup 0 _ _ (fun i hi => absurd hi (Nat.not_lt_zero _))))) ?_
        exact ⟨⟨_, rfl, okz2 (.fz _ _ (show Fz [] (ptsV e) (ptsV e) from Frz.fz)) (kz_os rfl rfl (by rw [hw1 hc8, hoo, hit, List.take_length, ho]; simp [T.sig]; omega))⟩, ⟨⟨_, rfl, okz_sgn (x := (⟨3, 0, 0, 0, []⟩ : Sg)) (by rw [hw1 hc8, hoo, hit, List.take_length, ho]; simp [T.sig])⟩, trivial⟩⟩
      have hr8 := hc8; (try simp only [hcs, Int.reduceToNat] at hc8)
      exfalso; rw [hc0] at hr8; cases hr8
    have hr4 := hc4; (try simp only [hcs, Int.reduceToNat] at hc4)
    exfalso; simp at hr4
  have hr0 := hc0; (try simp only [hcs, Int.reduceToNat] at hc0)
  have hlw := congrArg List.length (hw0 hc0)
  refine hw_skip ?_
  refine h1 _ ?_
  refine srg fun N h18 => ?_
  refine stm rfl rfl rfl ?_
  refine st0 (hop_nilcheck_pt rfl) rfl rfl ?_
  refine st0 (hop_fa fd_88_0 rfl) rfl rfl ?_
  refine st1 (hol_load ty_49 rfl (nb rfl) (nb rfl) (fun h => (by rfl))) rfl rfl rfl ?_
  refine stm rfl rfl rfl ?_
  refine st0 (hop_ia_sl el_49 rfl rfl (by omega) (by omega) (nb rfl)) rfl rfl ?_
  refine st0 (HOp.val (v' := ptH (⟨3, 0, 0, [], rootsL b ts⟩)) (hop_load_fp ty_75 rfl (nb rfl) (fun h => (by cases h))) (pt_at (by omega) htop.1)) rfl rfl ?_
  refine hm_1 6 (hop_alloc (id := 6) (sz := 5) zc_75 rfl rfl (nb rfl) (nb rfl)) rfl rfl pre0 rfl rfl (c' := c + 1) rfl ?_
  refine hm_s1 (hol_storeW ty_75 rfl rfl rfl rfl) rfl rfl (pre1 rfl) (c' := c + 2) rfl ?_
  refine snl h18 ?_
  refine hw_seq (fun Nh19 h19 => ?_)
  refine srg fun N h20 => ?_
  refine st0 (hop_fa fd_75_0 rfl) rfl rfl ?_
  refine st1 (hol_load ty_3 rfl (nb rfl) (nb rfl) (fun h => (by rfl))) rfl rfl rfl ?_
  refine snl h20 ?_
  refine hw_block ?_
  refine srg fun N h21 => ?_
  refine st0 (hop_eql rfl rfl) rfl rfl ?_
  refine sta rfl rfl rfl ?_
  refine snl h21 ?_
  refine hw_cond _ rfl (fun hc1 => ?_) (fun hc1 => ?_)
  · have hr1 := hc1; (try simp only [hcs, Int.reduceToNat] at hc1)
    exfalso; simp at hr1
  have hr1 := hc1; (try simp only [hcs, Int.reduceToNat] at hc1)
  refine srg fun N h22 => ?_
  refine st0 (hop_eql rfl rfl) rfl rfl ?_
  refine sta rfl rfl rfl ?_
  refine snl h22 ?_
  refine hw_cond _ rfl (fun hc2 => ?_) (fun hc2 => ?_)
  · have hr2 := hc2; (try simp only [hcs, Int.reduceToNat] at hc2)
    exfalso; simp at hr2
  have hr2 := hc2; (try simp only [hcs, Int.reduceToNat] at hc2)
  refine srg fun N h23 => ?_
  refine st0 (hop_eql rfl rfl) rfl rfl ?_
  refine sta rfl rfl rfl ?_
  refine snl h23 ?_
  refine hw_cond _ rfl (fun hc4 => ?_) (fun hc4 => ?_)
  · have hr4 := hc4; (try simp only [hcs, Int.reduceToNat] at hc4)
    refine hw_seq (fun Nh24 h24 => ?_)
    obtain ⟨o1, ho⟩ : ∃ o, o = out := ⟨_, rfl⟩; rw [← ho]; have hlo : o1.length = out.length := (by rw [ho]); obtain ⟨gi, hgi⟩ : ∃ x, x = g2 := ⟨_, rfl⟩; rw [← hgi]
    refine hw_region ?_
    refine st0 (hop_fa fd_75_4 rfl) rfl rfl ?_
    refine st1 (hol_load ty_44 rfl (nb rfl) (nb rfl) (fun h => (by rfl))) rfl rfl rfl ?_
    refine st0 (hop_len_sl (T := 44) rfl (elOf_spec el_44).1 rfl) rfl rfl ?_
    refine stm rfl rfl rfl ?_
    refine snl h24 ?_
    refine hw_block ?_
    refine hw_loopc (α := Nat × List Sg × Nat) (fun x c => ⟨158, [(0, .v (.pt 9001 g 0 0)), (2, .v (boolV bin)), (81, .v (kidsV (rootsL b ts))), (82, .v (intV (rootsL b ts).length)), (83, .v (intV x.1))], [(9001, shO g e x.2.2 x.2.1.length), (9002, sgsO x.2.2 x.2.1)], c⟩) (fun x => x.1 ≤ ts.length ∧ x.2.1 = o1 ++ T.sigL 3 true (ts.take x.1)) (fun x => ts.length - x.1) ((0, o1, gi)) (by exact ⟨Nat.zero_le _, by simp [T.sigL]⟩) (hsub_of rfl (Nat.le_refl _) (TmSub.cons rfl (Sb.refl _) (TmSub.cons rfl (Sb.refl _) (TmSub.cons rfl (Sb.refl _) (TmSub.cons rfl (Sb.refl _) (TmSub.cons rfl (Sb.refl _) TmSub.nil))))) (HpSub.cons rfl (OSub.refl _) (HpSub.cons rfl (OSub.refl _) HpSub.nil))) (fun x c hx NhL25 hL25 => ?_)
    revert hx hL25; obtain ⟨i, o, gg⟩ := x; intro hx hL25; dsimp only at hx hL25 ⊢
    obtain ⟨hi, hoo⟩ := hx
    have hol := kids_len hok (i := i) (k := 3) hi; have hol2 : o.length = o1.length + (T.sigL 3 true (ts.take i)).length := (by rw [hoo, List.length_append])
    refine srg fun N h26 => ?_
    refine st0 (hop_lss rfl rfl) rfl rfl ?_
    refine snl h26 ?_
    refine hw_seq (fun Nh27 h27 => ?_)
    refine hw_cond _ rfl (fun hc5 => ?_) (fun hc5 => ?_)
    · have hr5 := hc5; (try simp only [hcs, Int.reduceToNat] at hc5)
      have him : i < ts.length := (by omega); have hka := at_kid hat him; have hkt := at_top hka; have hkk : (e.getD (b + T.sizeL (ts.take i) + (ts.getD i default).size - 1) default).kind = (ts.getD i default).kind := (by rw [hkt.1, top_kind]); have hks := (ts.getD i default).size_pos; have hkn := kid_next_len (k := 3) him
      refine hw_skip ?_
      refine h27 _ ?_
      refine hw_seq (fun Nh28 h28 => ?_)
      refine hw_block ?_
      refine srg fun N h29 => ?_
      refine stm rfl rfl rfl ?_
      refine st0 (hop_ia_sl el_44 rfl rfl (by omega) (by omega) (nb rfl)) rfl rfl ?_
      refine st0 (HOp.val (v' := intV ((b + T.sizeL (ts.take i) + (ts.getD i default).size - 1 : Nat) : Int)) (hop_load_fp ty_3 rfl (nb rfl) (fun h => (by rfl))) (by exact kids_at (i := i) (by omega) (by rw [roots_get ts b i him]; unfold T.root; omega))) rfl rfl ?_
      refine sta rfl rfl rfl ?_
      refine sta rfl rfl rfl ?_
      refine snl h29 ?_
      refine hw_seq (fun Nh30 h30 => ?_)
      refine srg fun N h31 => ?_
      refine stm rfl rfl rfl ?_
      refine st0 (hop_gtr rfl rfl) rfl rfl ?_
      refine snl h31 ?_
      refine hw_cond _ rfl (fun hc6 => ?_) (fun hc6 => ?_)
      · have hr6 := hc6; (try simp only [hcs, Int.reduceToNat] at hc6)
        have hor : (orS 3 (decide (i = 0))).length = 1 := (by rw [decide_eq_false (show ¬ i = 0 by omega)]; rfl); have hoa : (o ++ [(⟨4, 0, 0, 0, []⟩ : Sg)]).length = o.length + 1 := (by simp)
        refine hw_region ?_
        refine stm rfl rfl rfl ?_
        refine stm rfl rfl rfl ?_
        refine st0 (hop_nilcheck_pt rfl) rfl rfl ?_
        refine st0 (hop_fa fd_88_1 rfl) rfl rfl ?_
        refine st1 (hol_load ty_86 rfl (nb rfl) (nb rfl) (fun h => (by rfl))) rfl rfl rfl ?_
        refine st0 (hop_build (hs := [(0, 1, _)]) st_108 rfl rfl ⟨rfl, rfl, rfl, rfl, rfl, trivial⟩) rfl rfl ?_
        refine hm_1 96 (hop_buildSlice (id := 96) (hs := [_]) ei_86 (nb rfl) rfl (nb rfl) ⟨rfl, rfl, rfl, rfl, trivial⟩) rfl rfl pre0 rfl rfl (c' := c + 1) rfl ?_
        refine hm_1 97 (hol_append ei_86 (nb rfl) rfl (by omega) (nb rfl) (srl_os0 rfl (nb rfl)) (by omega) rfl) rfl rfl (preC rfl (pre1 rfl)) rfl rfl (c' := c + 2) rfl ?_
        refine st0 (hop_nilcheck_pt rfl) rfl rfl ?_
        refine st0 (hop_fa fd_88_1 rfl) rfl rfl ?_
        refine hm_s1 (hol_store ty_86 rfl rfl rfl rfl (nb rfl) (nb rfl) (nb rfl)) rfl rfl (pre1 rfl) (c' := c + 3) rfl ?_
        refine snl h30 ?_
        refine (hsub_ob 9001 (shO g e (c + 1) (o ++ [(⟨4, 0, 0, 0, []⟩ : Sg)]).length) rfl (by exact osub2 (.refl _) (sb_os (by first | (simp; done) | (simp; omega))))).wp ?_; refine (hsub_ob 9002 (sgsO (c + 1) (o ++ [(⟨4, 0, 0, 0, []⟩ : Sg)])) rfl (by exact (osub_snoc (enc := sgF) (d := default) (x := (⟨4, 0, 0, 0, []⟩ : Sg)) (out := o) rfl (fun i j _ _ => .refl _) (sb_sg5 (.refl _) (.refl _) (.refl _) (.refl _) (.refl _))))).wp ?_
        refine hw_region ?_
        refine stm rfl rfl rfl ?_
        refine stm rfl rfl rfl ?_
        refine stm rfl rfl rfl ?_
        refine st0 (hop_nilcheck_pt rfl) rfl rfl ?_
        refine st0 (hop_fa fd_88_0 rfl) rfl rfl ?_
        refine st1 (hol_load ty_49 rfl (nb rfl) (nb rfl) (fun h => (by rfl))) rfl rfl rfl ?_
        refine stm rfl rfl rfl ?_
        refine st0 (hop_ia_sl el_49 rfl rfl (by omega) (by omega) (nb rfl)) rfl rfl ?_
        refine st0 (hop_fa_fp fd_75_0 rfl (nb rfl)) rfl rfl ?_
        refine st0 (HOp.val (v' := intV (ts.getD i default).kind) (hop_load_fp ty_3 rfl (nb rfl) (fun h => (by rfl))) (kind_at (by omega) hkk)) rfl rfl ?_
        refine st0 (hop_eql rfl rfl) rfl rfl ?_
        refine hf_callR 111 (xs := [_, _, _]) (pre := [(9001, _), (9002, _)]) (ih i him _ g (c + 1) (o ++ [(⟨4, 0, 0, 0, []⟩ : Sg)]) (inB 3 (ts.getD i default).kind) (by omega)) ⟨rfl, ⟨rfl, ⟨rfl, trivial⟩⟩⟩ (preC rfl (preC rfl pre0)) rfl rfl (fun g3 c3 hx3 => ?_)
        (try dsimp only)
        refine hseq_nil ?_
        refine hq_block ?_
        refine h28 _ ?_
        refine hw_region ?_
        refine st0 (hop_addi rfl rfl rfl (by omega) (by omega)) rfl rfl ?_
        refine stm rfl rfl rfl ?_
        refine hseq_nil ?_
        exact hL25 ((i + 1, (o ++ [(⟨4, 0, 0, 0, []⟩ : Sg)]) ++ wrapS (inB 3 (ts.getD i default).kind) (ts.getD i default).sig, g3)) _ _ (by (try dsimp only); exact ⟨him, by rw [hoo, sigL_take 3 ts i him, decide_eq_false (show ¬ i = 0 by omega)]; simp [orS]⟩) (by (try dsimp only); omega) (hsub_of rfl (Nat.le_refl _) (TmSub.cons rfl (Sb.refl _) (TmSub.cons rfl (Sb.refl _) (TmSub.cons rfl (Sb.refl _) (TmSub.cons rfl (Sb.refl _) (TmSub.cons rfl (Sb.refl _) TmSub.nil))))) (HpSub.cons rfl (OSub.refl _) (HpSub.cons rfl (OSub.refl _) HpSub.nil)))
      have hr6 := hc6; (try simp only [hcs, Int.reduceToNat] at hc6)
      refine hw_skip ?_
      refine h30 _ ?_
      refine hw_region ?_
      refine stm rfl rfl rfl ?_
      refine stm rfl rfl rfl ?_
      refine stm rfl rfl rfl ?_
      refine st0 (hop_nilcheck_pt rfl) rfl rfl ?_
      refine st0 (hop_fa fd_88_0 rfl) rfl rfl ?_
      refine st1 (hol_load ty_49 rfl (nb rfl) (nb rfl) (fun h => (by rfl))) rfl rfl rfl ?_
      refine stm rfl rfl rfl ?_
      refine st0 (hop_ia_sl el_49 rfl rfl (by omega) (by omega) (nb rfl)) rfl rfl ?_
      refine st0 (hop_fa_fp fd_75_0 rfl (nb rfl)) rfl rfl ?_
      refine st0 (HOp.val (v' := intV (ts.getD i default).kind) (hop_load_fp ty_3 rfl (nb rfl) (fun h => (by rfl))) (kind_at (by omega) hkk)) rfl rfl ?_
      refine st0 (hop_eql rfl rfl) rfl rfl ?_
      refine hf_callR 111 (xs := [_, _, _]) (pre := [(9001, _), (9002, _)]) (ih i him _ g gg o (inB 3 (ts.getD i default).kind) (by omega)) ⟨rfl, ⟨rfl, ⟨rfl, trivial⟩⟩⟩ (preC rfl (preC rfl pre0)) rfl rfl (fun g3 c4 hx4 => ?_)
      (try dsimp only)
      refine hseq_nil ?_
      refine hq_block ?_
      refine h28 _ ?_
      refine hw_region ?_
      refine st0 (hop_addi rfl rfl rfl (by omega) (by omega)) rfl rfl ?_
      refine stm rfl rfl rfl ?_
      refine hseq_nil ?_
      exact hL25 ((i + 1, o ++ wrapS (inB 3 (ts.getD i default).kind) (ts.getD i default).sig, g3)) _ _ (by (try dsimp only); exact ⟨him, by rw [hoo, sigL_take 3 ts i him, decide_eq_true (show i = 0 by omega)]; simp [orS]⟩) (by (try dsimp only); omega) (hsub_of rfl (Nat.le_refl _) (TmSub.cons rfl (Sb.refl _) (TmSub.cons rfl (Sb.refl _) (TmSub.cons rfl (Sb.refl _) (TmSub.cons rfl (Sb.refl _) (TmSub.cons rfl (Sb.refl _) TmSub.nil))))) (HpSub.cons rfl (OSub.refl _) (HpSub.cons rfl (OSub.refl _) HpSub.nil)))
    have hr5 := hc5; (try simp only [hcs, Int.reduceToNat] at hc5)
    have hit : i = ts.length := (by omega)
    refine hw_exit ?_
    refine hq_then_exit ?_
    refine hq_then_exit ?_
    refine hq_block_here ?_
    refine hq_block ?_
    refine h19 _ ?_
    refine srg fun N h32 => ?_
    refine stm rfl rfl rfl ?_
    refine snl h32 ?_
    refine hw_cond _ rfl (fun hc8 => ?_) (fun hc8 => ?_)
    · have hr8 := hc8; (try simp only [hcs, Int.reduceToNat] at hc8)
      exfalso; rw [hc0] at hr8; cases hr8
    have hr8 := hc8; (try simp only [hcs, Int.reduceToNat] at hc8)
    refine hw_skip ?_
    refine hq_fall ?_
    refine hf_retR0 ok hX RetS.one rfl  [] rfl pre0 (gg) (trivial) (by rfl) (by rfl) ((by first | exact .fz _ _ (.imm _) | exact .os _ _ _ _ _ rfl rfl | exact .pt _ _ _ _ _ rfl rfl | exact .nps _ _ _ rfl rfl | (dsimp only; exact .fz _ _ Frz.fz) | exact .fz _ _ (.tup 0 _ _ (fun i hi => absurd hi (Nat.not_lt_zero _))))) ?_
    exact ⟨⟨_, rfl, okz_sh rfl rfl (by rw [hw0 hc8, hoo, hit, List.take_length, ho]; rfl)⟩, ⟨⟨_, rfl, okz_sgs (by rw [hw0 hc8, hoo, hit, List.take_length, ho]; rfl)⟩, trivial⟩⟩
  have hr4 := hc4; (try simp only [hcs, Int.reduceToNat] at hc4)
  exfalso; simp at hr4
theorem sizeL_ge : ∀ ts : List T, ts.length ≤ T.sizeL ts
  | [] => Nat.le_refl _
  | t :: ts => by have := sizeL_ge ts; have := t.size_pos; simp only [List.length_cons, T.sizeL]; omega
mutual
theorem lay_tree (e : List Pt) (he : e.length ≤ 100000) : ∀ (t : T) (b : Nat), t.ok = true → AtP e b (T.flat b t) → LayC e b t
  | .name s, b, _, hat => lay_name e b he s hat
  | .times lo hi t, b, h, hat => by
    simp only [T.ok, Bool.and_eq_true] at h
    exact lay_times e b he lo hi t (lay_tree e he t b h.2 (AtP.mono_times hat)) hat
  | .many k ts, b, h, hat => by
    simp only [T.ok, Bool.and_eq_true, Bool.or_eq_true, decide_eq_true_eq] at h
    have hl : ts.length ≤ 100000 := by have := sizeL_ge ts; have := (at_top hat).2; simp only [T.size] at this; omega
    have ih := lay_treeL e he ts h.2
    rcases h.1.1 with hk | hk
    · subst hk; exact lay_row e b he ts h.2 hl (fun i hi => ih i hi _ (at_kid hat hi)) hat
    · subst hk; exact lay_choice e b he ts h.2 hl (fun i hi => ih i hi _ (at_kid hat hi)) hat
theorem lay_treeL (e : List Pt) (he : e.length ≤ 100000) : ∀ ts : List T, T.okL ts = true → ∀ i, i < ts.length → ∀ b, AtP e b (T.flat b (ts.getD i default)) → LayC e b (ts.getD i default)
  | [], _, i, hi, _, _ => absurd hi (Nat.not_lt_zero _)
  | t :: ts, h, i, hi, b, hat => by
    simp only [T.okL, Bool.and_eq_true] at h
    cases i with
    | zero => exact lay_tree e he t b h.1 hat
    | succ i => have := lay_treeL e he ts h.2 i (by simpa using hi) b (by simpa using hat); simpa using this
end
end Go.Proofs.YtmcchhmgchgaaaaDoor

namespace Go.Proofs.YtmcchhmgchgaaaaDoor
set_option linter.unusedSimpArgs false
set_option linter.unusedVariables false
set_option maxRecDepth 100000

theorem nameV_W {s : List UInt8} (h : nameV s = true) : SgW ⟨1, 0, 0, 0, s⟩ := by
  unfold nameV at h
  split at h
  · rename_i x hx
    simp only [Bool.and_eq_true, decide_eq_true_eq] at h
    have := kd1 (lexV_W hx x (by simp)) h.1
    rw [h.2] at this; exact this
  · cases h
theorem nameV_len {s : List UInt8} (h : nameV s = true) : s.length ≤ 12 := by
  have := nameV_W h
  cases this with
  | name h1 _ _ => exact h1
theorem times_W {lo hi : Int} (h : (decide (0 ≤ lo) && decide (lo ≤ 20) && (decide (hi = -1) || decide ((if 1 > lo then 1 else lo) ≤ hi) && decide (hi ≤ 20))) = true) : TimesOk lo hi := by
  simp only [Bool.and_eq_true, Bool.or_eq_true, decide_eq_true_eq] at h
  refine ⟨h.1, ?_⟩
  rcases h.2 with h2 | h2
  · exact .inl h2
  · right
    have := h2.1
    split at this <;> omega
theorem wrap_W {b : Bool} {l : List Sg} (h : ∀ x ∈ l, SgW x) : ∀ x ∈ wrapS b l, SgW x := by
  unfold wrapS
  split
  · intro x hx
    simp only [List.append_assoc, List.mem_append, List.mem_singleton] at hx
    rcases hx with rfl | hx | rfl
    · exact .open_
    · exact h x hx
    · exact .shut
  · exact h
mutual
theorem sig_W : ∀ t : T, t.ok = true → ∀ x ∈ t.sig, SgW x
  | .name s, h => fun x hx => by
    simp only [T.sig, List.mem_singleton] at hx
    subst hx; exact nameV_W (by simpa [T.ok] using h)
  | .times lo hi t, h => fun x hx => by
    simp only [T.ok] at h
    have h1 := h
    rw [Bool.and_eq_true] at h1
    simp only [T.sig, List.mem_append, List.mem_singleton] at hx
    rcases hx with hx | rfl
    · exact wrap_W (sig_W t h1.2) x hx
    · exact .times (times_W h1.1)
  | .many k ts, h => by
    simp only [T.ok, Bool.and_eq_true] at h
    simp only [T.sig]
    exact sigL_W k ts h.2 true
theorem sigL_W (k : Int) : ∀ ts : List T, T.okL ts = true → ∀ f, ∀ x ∈ T.sigL k f ts, SgW x
  | [], _, f => fun x hx => by simp [T.sigL] at hx
  | t :: ts, h, f => fun x hx => by
    simp only [T.okL, Bool.and_eq_true] at h
    simp only [T.sigL, List.append_assoc, List.mem_append] at hx
    rcases hx with hx | hx | hx
    · unfold orS at hx
      split at hx
      · simp only [List.mem_singleton] at hx; subst hx; exact .or_
      · cases hx
    · exact wrap_W (sig_W t h.1) x hx
    · exact sigL_W k ts h.2 false x hx
end
mutual
theorem flat_small : ∀ (t : T) (b : Nat), t.ok = true → ∀ x ∈ T.flat b t, x.kids.length ≤ t.size ∧ x.name.length ≤ 12
  | .name s, b, h => fun x hx => by
    simp only [T.flat, List.mem_singleton] at hx
    subst hx; exact ⟨Nat.zero_le _, nameV_len (by simpa [T.ok] using h)⟩
  | .times lo hi t, b, h => fun x hx => by
    simp only [T.ok, Bool.and_eq_true] at h
    simp only [T.flat, List.mem_append, List.mem_singleton] at hx
    rcases hx with hx | rfl
    · have := flat_small t b h.2 x hx
      exact ⟨Nat.le_trans this.1 (by simp only [T.size]; omega), this.2⟩
    · exact ⟨by show 1 ≤ _; simp only [T.size]; omega, Nat.zero_le _⟩
  | .many k ts, b, h => fun x hx => by
    simp only [T.ok, Bool.and_eq_true] at h
    simp only [T.flat, List.mem_append, List.mem_singleton] at hx
    rcases hx with hx | rfl
    · have := flatL_small ts b h.2 x hx
      exact ⟨Nat.le_trans this.1 (by simp only [T.size]; omega), this.2⟩
    · refine ⟨?_, Nat.zero_le _⟩
      show (rootsL b ts).length ≤ _
      rw [rootsL_len]
      have : ∀ ts : List T, ts.length ≤ T.sizeL ts := fun ts => by
        induction ts with
        | nil => exact Nat.le_refl _
        | cons t ts ih => have := t.size_pos; simp only [List.length_cons, T.sizeL]; omega
      have := this ts
      simp only [T.size]; omega
theorem flatL_small : ∀ (ts : List T) (b : Nat), T.okL ts = true → ∀ x ∈ T.flatL b ts, x.kids.length ≤ T.sizeL ts ∧ x.name.length ≤ 12
  | [], b, _ => fun x hx => by simp [T.flatL] at hx
  | t :: ts, b, h => fun x hx => by
    simp only [T.okL, Bool.and_eq_true] at h
    simp only [T.flatL, List.mem_append] at hx
    rcases hx with hx | hx
    · have := flat_small t b h.1 x hx
      exact ⟨Nat.le_trans this.1 (by simp only [T.sizeL]; omega), this.2⟩
    · have := flatL_small ts _ h.2 x hx
      exact ⟨Nat.le_trans this.1 (by simp only [T.sizeL]; omega), this.2⟩
end
/-- The chapter's example. -/
def exE : List UInt8 := [97, 32, 40, 98, 32, 124, 32, 99, 41, 43]
def exT : T := .many 2 [.name [97], .times 1 (-1) (.many 3 [.name [98], .name [99]])]
def exG : List Sg := [⟨1, 0, 0, 0, [97]⟩, ⟨2, 2, 0, 0, []⟩, ⟨1, 3, 0, 0, [98]⟩, ⟨4, 5, 0, 0, []⟩, ⟨1, 7, 0, 0, [99]⟩, ⟨3, 8, 0, 0, []⟩, ⟨5, 9, 1, -1, []⟩]
theorem exE_lex0 : (match lexV exE with | .ok l => decide (l = exG) | .error _ => false) = true := by decide +kernel
theorem exE_lex : lexV exE = .ok exG := by
  have := exE_lex0
  split at this
  · rename_i l hl; rw [hl, of_decide_eq_true this]
  · cases this
theorem exT_sig : exT.sig = [⟨1, 0, 0, 0, [97]⟩, ⟨2, 0, 0, 0, []⟩, ⟨1, 0, 0, 0, [98]⟩, ⟨4, 0, 0, 0, []⟩, ⟨1, 0, 0, 0, [99]⟩, ⟨3, 0, 0, 0, []⟩, ⟨5, 0, 1, -1, []⟩] := by
  simp [exT, T.sig, T.sigL, wrapS, inB, orS, T.kind]
theorem exT_flat : T.flat 0 exT = [⟨1, 0, 0, [97], []⟩, ⟨1, 0, 0, [98], []⟩, ⟨1, 0, 0, [99], []⟩, ⟨3, 0, 0, [], [1, 2]⟩, ⟨4, 1, -1, [], [3]⟩, ⟨2, 0, 0, [], [0, 4]⟩] := by
  simp [exT, T.flat, T.flatL, T.size, T.sizeL, rootsL]
theorem exN : nameV [97] = true ∧ nameV [98] = true ∧ nameV [99] = true := by decide +kernel
theorem exT_ok : exT.ok = true := by
  simp [exT, T.ok, T.okL, exN.1, exN.2.1, exN.2.2]
theorem exT_seg : Seg exG 3 0 exG.length exT := by
  refine sig_seg exT_ok (by rw [exT_sig]; rfl) (fun i hi => ?_)
  rw [exT_sig]
  have : i < 7 := hi
  match i, this with
  | 0, _ => exact ⟨rfl, rfl, rfl, rfl⟩
  | 1, _ => exact ⟨rfl, rfl, rfl, rfl⟩
  | 2, _ => exact ⟨rfl, rfl, rfl, rfl⟩
  | 3, _ => exact ⟨rfl, rfl, rfl, rfl⟩
  | 4, _ => exact ⟨rfl, rfl, rfl, rfl⟩
  | 5, _ => exact ⟨rfl, rfl, rfl, rfl⟩
  | 6, _ => exact ⟨rfl, rfl, rfl, rfl⟩
theorem exT_show : showL exT.sig = [97, 32, 40, 32, 98, 32, 124, 32, 99, 32, 41, 43] := by
  rw [exT_sig]; decide +kernel
/-- A whole text is read in one way. -/
theorem seg_one {l : List Sg} {t t' : T} (h : Seg l 3 0 l.length t) (h' : Seg l 3 0 l.length t') : t = t' := by
  have e : EndOk l 3 l.length := ⟨fun _ => by rw [kd_out (Nat.le_refl _)]; decide, fun _ => by rw [kd_out (Nat.le_refl _)]; decide⟩
  exact (seg_det h h' e e).2
end Go.Proofs.YtmcchhmgchgaaaaDoor

namespace Go.Proofs.YtmcchhmgchgaaaaDoor
set_option linter.unusedSimpArgs false
set_option linter.unusedVariables false
set_option maxRecDepth 100000
set_option maxHeartbeats 1000000
open Go.RowKit

theorem getD_mem' {l : List Pt} {i : Nat} (h : i < l.length) : l.getD i default ∈ l := by
  rw [List.getD_eq_getElem?_getD, List.getElem?_eq_getElem h]; exact List.getElem_mem h
theorem ptB_flat {t : T} (h : t.ok = true) (hs : t.size ≤ 100000) : PtB (T.flat 0 t) := by
  refine ⟨by rw [T.flat_len]; exact hs, fun i hi => ?_⟩
  have := flat_small t 0 h _ (getD_mem' hi)
  omega
theorem exprShow_h (t : T) (h : t.ok = true) (hs : t.size ≤ 250) : HPure Tryd.prog 28 [ptsV (T.flat 0 t)] (strV (showL t.sig)) := by
  have hB := ptB_flat h (by omega)
  have hfl := T.flat_len 0 t
  have hsl := sig_len t h
  have hps := t.size_pos
  have hR := right_h (T.flat 0 t) hB
  rw [right_of_ok h] at hR
  have hat : AtP (T.flat 0 t) 0 (T.flat 0 t) := ⟨[], [], by simp, rfl⟩
  refine hpure_of Tryd.func28 rfl (by kernel_rfl) _ _ _ rfl 25 rfl rfl (fun w F => ?_)
  refine srg fun N h1 => ?_
  refine sta rfl rfl rfl ?_
  refine snl h1 ?_
  refine hw_seq (fun Nh2 h2 => ?_)
  refine srg fun N h3 => ?_
  refine stm rfl rfl rfl ?_
  first
  | refine hq_ 5 (hop_len_sl (T := 49) rfl (elOf_spec el_49).1 rfl) rfl rfl pre0 rfl rfl ?_
  | refine hq_ 5 (hop_len_os (T := 49) rfl (elOf_spec el_49).1 rfl) rfl rfl pre0 rfl rfl ?_
  | refine hq_ 5 (hop_len_nil (T := 49) rfl (elOf_spec el_49).1 rfl) rfl rfl pre0 rfl rfl ?_
  refine st0 (hop_eql rfl rfl) rfl rfl ?_
  refine stm rfl rfl rfl ?_
  first
  | refine stg 7 (fun hb => hop_move rfl) rfl rfl rfl rfl rfl ?_
  | refine sth 7 (fun hb => hop_move rfl) rfl rfl rfl rfl rfl ?_
  first
  | refine stg 7 (fun hb => hop_call0 (xs := [_]) (hR) ⟨rfl, trivial⟩ ⟨(Fz.eq rfl), trivial⟩) rfl rfl rfl rfl rfl ?_
  | refine sth 7 (fun hb => hop_call0 (xs := [_]) (hR) ⟨rfl, trivial⟩ ⟨(Fz.eq rfl), trivial⟩) rfl rfl rfl rfl rfl ?_
  first
  | refine stg 7 (fun hb => hop_not rfl) rfl rfl rfl rfl rfl ?_
  | refine sth 7 (fun hb => hop_not rfl) rfl rfl rfl rfl rfl ?_
  first
  | refine hq_p 11 (hstep_and _ _ rfl rfl rfl) rfl rfl rfl ?_
  | refine hq_p 11 (hstep_or _ _ rfl rfl rfl) rfl rfl rfl ?_
  | refine hq_p 11 (hstep_ite _ _ _ rfl rfl rfl) rfl rfl rfl ?_
  | refine hq_p 11 (hstep_pick _ _ _ _ rfl rfl rfl (fun _ => .refl _) (fun _ => .refl _)) rfl rfl rfl ?_
  refine hseq_nilU (by rfl) (by simp only [dropUn, slots]; exact rfl) ?_
  refine h3 _ ?_
  refine hw_cond _ rfl (fun hc0 => ?_) (fun hc0 => ?_)
  · have hr0 := hc0; (try simp only [hcs, Int.reduceToNat] at hc0)
    exfalso; have h := hr0; simp at h; rw [h] at hfl; simp at hfl; omega
  have hr0 := hc0; (try simp only [hcs, Int.reduceToNat] at hc0)
  refine hw_skip ?_
  refine h2 _ ?_
  refine srg fun N h4 => ?_
  refine stm rfl rfl rfl ?_
  refine st0 (hop_build (hs := [(0, 1, _)]) st_88 rfl rfl ⟨rfl, rfl, rfl, rfl, rfl, trivial⟩) rfl rfl ?_
  refine hm_1 14 (hop_box (id := 9001) (sz := 2) rfl rfl rfl (by decide) (by decide)) rfl rfl pre0 rfl rfl (c' := 1) rfl ?_
  refine sta rfl rfl rfl ?_
  refine snl h4 ?_
  refine hw_seq (fun Nh5 h5 => ?_)
  refine (hsub_ownc 9001 1 9002 5 108 (sgsF []) (shF (T.flat 0 t) 1 0) rfl rfl (fun j hj => by match j, hj with | 0, _ => exact .inr rfl | 1, _ => exact .inl ⟨rfl, rfl⟩) (by decide) (by decide) (c' := 2) rfl).wp ?_
  refine hw_region ?_
  refine stm rfl rfl rfl ?_
  refine stm rfl rfl rfl ?_
  first
  | refine hq_ 17 (hop_len_sl (T := 49) rfl (elOf_spec el_49).1 rfl) rfl rfl pre0 rfl rfl ?_
  | refine hq_ 17 (hop_len_os (T := 49) rfl (elOf_spec el_49).1 rfl) rfl rfl pre0 rfl rfl ?_
  | refine hq_ 17 (hop_len_nil (T := 49) rfl (elOf_spec el_49).1 rfl) rfl rfl pre0 rfl rfl ?_
  first
  | refine hq_ 18 (HOp.val (v' := intV ((0 + t.size - 1 : Nat) : Int)) (hop_subi rfl rfl rfl (by first | exact Nat.le_of_ble_eq_true rfl | omega | (dsimp only; omega) | (simp <;> omega)) (by first | exact Nat.le_of_ble_eq_true rfl | omega | (dsimp only; omega) | (simp <;> omega))) (congrArg intV (show ((T.flat 0 t).length : Int) - 1 = ((0 + t.size - 1 : Nat) : Int) by omega))) rfl rfl pre0 rfl rfl ?_
  | refine hq_ 18 (HOp.val (v' := intV ((0 + t.size - 1 : Nat) : Int)) (hop_sub rfl rfl) (congrArg intV (show ((T.flat 0 t).length : Int) - 1 = ((0 + t.size - 1 : Nat) : Int) by omega))) rfl rfl pre0 rfl rfl ?_
  refine hf_callR 19 (xs := [_, _, _]) (pre := [(9001, _), (9002, _)]) (lay_tree (T.flat 0 t) hB.1 t 0 h hat _ 0 1 [] false (by show 0 + t.sig.length ≤ _; omega)) ⟨rfl, ⟨rfl, ⟨rfl, trivial⟩⟩⟩ (preC rfl (preC rfl pre0)) rfl rfl (fun g3 c1 hx1 => ?_)
  (try dsimp only)
  refine snl h5 ?_
  refine srg fun N h6 => ?_
  refine stm rfl rfl rfl ?_
  first
  | refine hq_ 21 (hop_nilcheck_pt rfl) rfl rfl pre0 rfl rfl ?_
  | refine hq_ 21 (hop_nilcheck_fp rfl) rfl rfl pre0 rfl rfl ?_
  first
  | refine hq_ 22 (hop_fa fd_88_1 rfl) rfl rfl pre0 rfl rfl ?_
  | refine hq_ 22 (hop_fa_fp fd_88_1 rfl (by first | exact Nat.le_of_ble_eq_true rfl | omega | (dsimp only; omega) | (simp <;> omega))) rfl rfl pre0 rfl rfl ?_
  first
  | refine hq_ 23 (hol_load ty_86 rfl (by first | exact Nat.le_of_ble_eq_true rfl | omega | (dsimp only; omega) | (simp <;> omega)) (by first | exact Nat.le_of_ble_eq_true rfl | omega | (dsimp only; omega) | (simp <;> omega)) (fun h => (by first | rfl | cases h))) rfl rfl (pre1 rfl) rfl rfl ?_
  | refine hq_ 23 (hop_load_fp ty_86 rfl (by first | exact Nat.le_of_ble_eq_true rfl | omega | (dsimp only; omega) | (simp <;> omega)) (fun h => (by first | rfl | cases h))) rfl rfl pre0 rfl rfl ?_
  refine (hsub_shr 23 [(9002, _)] rfl (preC rfl pre0) rfl ((show Fz _ _ (sgsV ([] ++ wrapS false t.sig)) from fz_row (l := [] ++ wrapS false t.sig) (enc := sgF) (d := default) (List.mem_cons_self ..) rfl rfl (Nat.le_refl _) (fun i j hi hj => sg_fz _ j)))).seq ?_
  refine st0 (hop_call0 (xs := [_]) (lexShow_h t.sig (by omega) (fun x hx => (sig_W t h x hx).ok)) ⟨rfl, trivial⟩ ⟨(Fz.eq rfl), trivial⟩) rfl rfl ?_
  refine sta rfl rfl rfl ?_
  refine snl h6 ?_
  refine hw_ret ?_
  refine hq_ret1 rfl (rval_tmp rfl) [] rfl pre0 ?_
  exact Frz.fz
theorem ex_parse {r : List Pt × Int × Int} (h : ParseIs exE r) : r = (T.flat 0 exT, 0, 0) := by
  have hne : exG ≠ [] := by decide
  have hc : chk exG 0 0 true true = (-1, false) := all_good exT_seg
  cases h with
  | err e hv => rw [exE_lex] at hv; cases hv
  | none hv => rw [exE_lex] at hv; injection hv with hv; exact absurd hv hne
  | odd l q hv _ _ hq => rw [exE_lex] at hv; injection hv with hv; subst hv; rw [hc] at hq; injection hq with hq _; exact absurd hq (by omega)
  | end_ l hv _ hq => rw [exE_lex] at hv; injection hv with hv; subst hv; rw [hc] at hq; injection hq with _ hq; cases hq
  | ok l t hv hs => rw [exE_lex] at hv; injection hv with hv; subst hv; rw [seg_one hs exT_seg]
theorem live6_h : HPure Tryd.prog 23 [] (boolV true) := by
  have hsz : exT.size = 6 := by simp [exT, T.size, T.sizeL]
  have hsh := exprShow_h exT exT_ok (by omega)
  rw [exT_flat, exT_show] at hsh
  refine hpure_of Tryd.func23 rfl (by kernel_rfl) _ _ _ rfl 49 rfl rfl (fun w F => ?_)
  refine srg fun N h1 => ?_
  refine sta rfl rfl rfl ?_
  refine snl h1 ?_
  refine srg fun N h2 => ?_
  refine hf_callR 5 (xs := [_]) (pre := []) (parse_h _ exE (by decide)) ⟨rfl, trivial⟩ pre0 rfl rfl (fun r c1 hr => ?_)
  (try dsimp only)
  refine stm rfl rfl rfl ?_
  refine st0 (hop_extract rfl rfl) rfl rfl ?_
  refine st0 (hop_extract rfl rfl) rfl rfl ?_
  refine st0 (hop_extract rfl rfl) rfl rfl ?_
  refine sta rfl rfl rfl ?_
  refine sta rfl rfl rfl ?_
  refine sta rfl rfl rfl ?_
  refine snl h2 ?_
  refine hw_seq (fun Nh3 h3 => ?_)
  obtain rfl := ex_parse hr; simp only [exT_flat]
  refine hw_region ?_
  refine stm rfl rfl rfl ?_
  refine st0 (hop_eql rfl rfl) rfl rfl ?_
  refine stm rfl rfl rfl ?_
  first
  | refine stg 11 (fun hb => hop_move rfl) rfl rfl rfl rfl rfl ?_
  | refine sth 11 (fun hb => hop_move rfl) rfl rfl rfl rfl rfl ?_
  first
  | refine stg 11 (fun hb => hop_len_sl (T := 49) rfl (elOf_spec el_49).1 rfl) rfl rfl rfl rfl rfl ?_
  | refine sth 11 (fun hb => hop_len_sl (T := 49) rfl (elOf_spec el_49).1 rfl) rfl rfl rfl rfl rfl ?_
  | refine stg 11 (fun hb => hop_len_os (T := 49) rfl (elOf_spec el_49).1 rfl) rfl rfl rfl rfl rfl ?_
  | refine sth 11 (fun hb => hop_len_os (T := 49) rfl (elOf_spec el_49).1 rfl) rfl rfl rfl rfl rfl ?_
  | refine stg 11 (fun hb => hop_len_nil (T := 49) rfl (elOf_spec el_49).1 rfl) rfl rfl rfl rfl rfl ?_
  | refine sth 11 (fun hb => hop_len_nil (T := 49) rfl (elOf_spec el_49).1 rfl) rfl rfl rfl rfl rfl ?_
  first
  | refine stg 11 (fun hb => hop_eql rfl rfl) rfl rfl rfl rfl rfl ?_
  | refine sth 11 (fun hb => hop_eql rfl rfl) rfl rfl rfl rfl rfl ?_
  first
  | refine hq_p 15 (hstep_and _ _ rfl rfl rfl) rfl rfl rfl ?_
  | refine hq_p 15 (hstep_or _ _ rfl rfl rfl) rfl rfl rfl ?_
  | refine hq_p 15 (hstep_ite _ _ _ rfl rfl rfl) rfl rfl rfl ?_
  | refine hq_p 15 (hstep_pick _ _ _ _ rfl rfl rfl (fun _ => .refl _) (fun _ => .refl _)) rfl rfl rfl ?_
  refine stm rfl rfl rfl ?_
  first
  | refine stg 16 (fun hb => hop_move rfl) rfl rfl rfl rfl rfl ?_
  | refine sth 16 (fun hb => hop_move rfl) rfl rfl rfl rfl rfl ?_
  first
  | refine stg 16 (fun hb => hop_ia_sl el_49 rfl rfl (by first | exact Nat.le_of_ble_eq_true rfl | (simp at hb; first | omega | (dsimp only; omega) | (simp <;> omega))) (by first | exact Nat.le_of_ble_eq_true rfl | (simp at hb; first | omega | (dsimp only; omega) | (simp <;> omega))) (by first | exact Nat.le_of_ble_eq_true rfl | (simp at hb; first | omega | (dsimp only; omega) | (simp <;> omega)))) rfl rfl rfl rfl rfl ?_
  | refine sth 16 (fun hb => hop_ia_sl el_49 rfl rfl (by first | exact Nat.le_of_ble_eq_true rfl | (simp at hb; first | omega | (dsimp only; omega) | (simp <;> omega))) (by first | exact Nat.le_of_ble_eq_true rfl | (simp at hb; first | omega | (dsimp only; omega) | (simp <;> omega))) (by first | exact Nat.le_of_ble_eq_true rfl | (simp at hb; first | omega | (dsimp only; omega) | (simp <;> omega)))) rfl rfl rfl rfl rfl ?_
  | refine hq_g 18 7 16 true _ (fun hb => hol_ia_os el_49 rfl rfl (by first | exact Nat.le_of_ble_eq_true rfl | (simp at hb; first | omega | (dsimp only; omega) | (simp <;> omega))) (by first | exact Nat.le_of_ble_eq_true rfl | (simp at hb; first | omega | (dsimp only; omega) | (simp <;> omega)))) rfl rfl rfl rfl (pre1 rfl) rfl rfl rfl ?_
  | refine hq_g2 18 7 16 _ _ true _ (fun hb => hol_ia_os el_49 rfl rfl (by first | exact Nat.le_of_ble_eq_true rfl | (simp at hb; first | omega | (dsimp only; omega) | (simp <;> omega))) (by first | exact Nat.le_of_ble_eq_true rfl | (simp at hb; first | omega | (dsimp only; omega) | (simp <;> omega)))) rfl rfl rfl rfl (pre1 rfl) rfl rfl rfl ?_
  first
  | refine stg 16 (fun hb => hop_fa fd_75_0 rfl) rfl rfl rfl rfl rfl ?_
  | refine sth 16 (fun hb => hop_fa fd_75_0 rfl) rfl rfl rfl rfl rfl ?_
  | refine stg 16 (fun hb => hop_fa_fp fd_75_0 rfl (by first | exact Nat.le_of_ble_eq_true rfl | (simp at hb; first | omega | (dsimp only; omega) | (simp <;> omega)))) rfl rfl rfl rfl rfl ?_
  | refine sth 16 (fun hb => hop_fa_fp fd_75_0 rfl (by first | exact Nat.le_of_ble_eq_true rfl | (simp at hb; first | omega | (dsimp only; omega) | (simp <;> omega)))) rfl rfl rfl rfl rfl ?_
  first
  | refine hq_g 20 7 16 true _ (fun hb => hol_load ty_3 rfl (by first | exact Nat.le_of_ble_eq_true rfl | (simp at hb; first | omega | (dsimp only; omega) | (simp <;> omega))) (by first | exact Nat.le_of_ble_eq_true rfl | (simp at hb; first | omega | (dsimp only; omega) | (simp <;> omega))) (fun h => (by first | rfl | cases h))) rfl rfl rfl rfl (pre1 rfl) rfl rfl rfl ?_
  | refine hq_g2 20 7 16 _ _ true _ (fun hb => hol_load ty_3 rfl (by first | exact Nat.le_of_ble_eq_true rfl | (simp at hb; first | omega | (dsimp only; omega) | (simp <;> omega))) (by first | exact Nat.le_of_ble_eq_true rfl | (simp at hb; first | omega | (dsimp only; omega) | (simp <;> omega))) (fun h => (by first | rfl | cases h))) rfl rfl rfl rfl (pre1 rfl) rfl rfl rfl ?_
  | refine stg 16 (fun hb => hop_load_fp ty_3 rfl (by first | exact Nat.le_of_ble_eq_true rfl | (simp at hb; first | omega | (dsimp only; omega) | (simp <;> omega))) (fun h => (by first | rfl | cases h))) rfl rfl rfl rfl rfl ?_
  | refine sth 16 (fun hb => hop_load_fp ty_3 rfl (by first | exact Nat.le_of_ble_eq_true rfl | (simp at hb; first | omega | (dsimp only; omega) | (simp <;> omega))) (fun h => (by first | rfl | cases h))) rfl rfl rfl rfl rfl ?_
  first
  | refine stg 16 (fun hb => hop_eql rfl rfl) rfl rfl rfl rfl rfl ?_
  | refine sth 16 (fun hb => hop_eql rfl rfl) rfl rfl rfl rfl rfl ?_
  first
  | refine hq_p 22 (hstep_and _ _ rfl rfl rfl) rfl rfl rfl ?_
  | refine hq_p 22 (hstep_or _ _ rfl rfl rfl) rfl rfl rfl ?_
  | refine hq_p 22 (hstep_ite _ _ _ rfl rfl rfl) rfl rfl rfl ?_
  | refine hq_p 22 (hstep_pick _ _ _ _ rfl rfl rfl (fun _ => .refl _) (fun _ => .refl _)) rfl rfl rfl ?_
  refine stm rfl rfl rfl ?_
  first
  | refine stg 23 (fun hb => hop_move rfl) rfl rfl rfl rfl rfl ?_
  | refine sth 23 (fun hb => hop_move rfl) rfl rfl rfl rfl rfl ?_
  first
  | refine stg 23 (fun hb => hop_ia_sl el_49 rfl rfl (by first | exact Nat.le_of_ble_eq_true rfl | (simp at hb; first | omega | (dsimp only; omega) | (simp <;> omega))) (by first | exact Nat.le_of_ble_eq_true rfl | (simp at hb; first | omega | (dsimp only; omega) | (simp <;> omega))) (by first | exact Nat.le_of_ble_eq_true rfl | (simp at hb; first | omega | (dsimp only; omega) | (simp <;> omega)))) rfl rfl rfl rfl rfl ?_
  | refine sth 23 (fun hb => hop_ia_sl el_49 rfl rfl (by first | exact Nat.le_of_ble_eq_true rfl | (simp at hb; first | omega | (dsimp only; omega) | (simp <;> omega))) (by first | exact Nat.le_of_ble_eq_true rfl | (simp at hb; first | omega | (dsimp only; omega) | (simp <;> omega))) (by first | exact Nat.le_of_ble_eq_true rfl | (simp at hb; first | omega | (dsimp only; omega) | (simp <;> omega)))) rfl rfl rfl rfl rfl ?_
  | refine hq_g 25 14 23 true _ (fun hb => hol_ia_os el_49 rfl rfl (by first | exact Nat.le_of_ble_eq_true rfl | (simp at hb; first | omega | (dsimp only; omega) | (simp <;> omega))) (by first | exact Nat.le_of_ble_eq_true rfl | (simp at hb; first | omega | (dsimp only; omega) | (simp <;> omega)))) rfl rfl rfl rfl (pre1 rfl) rfl rfl rfl ?_
  | refine hq_g2 25 14 23 _ _ true _ (fun hb => hol_ia_os el_49 rfl rfl (by first | exact Nat.le_of_ble_eq_true rfl | (simp at hb; first | omega | (dsimp only; omega) | (simp <;> omega))) (by first | exact Nat.le_of_ble_eq_true rfl | (simp at hb; first | omega | (dsimp only; omega) | (simp <;> omega)))) rfl rfl rfl rfl (pre1 rfl) rfl rfl rfl ?_
  first
  | refine stg 23 (fun hb => hop_fa fd_75_0 rfl) rfl rfl rfl rfl rfl ?_
  | refine sth 23 (fun hb => hop_fa fd_75_0 rfl) rfl rfl rfl rfl rfl ?_
  | refine stg 23 (fun hb => hop_fa_fp fd_75_0 rfl (by first | exact Nat.le_of_ble_eq_true rfl | (simp at hb; first | omega | (dsimp only; omega) | (simp <;> omega)))) rfl rfl rfl rfl rfl ?_
  | refine sth 23 (fun hb => hop_fa_fp fd_75_0 rfl (by first | exact Nat.le_of_ble_eq_true rfl | (simp at hb; first | omega | (dsimp only; omega) | (simp <;> omega)))) rfl rfl rfl rfl rfl ?_
  first
  | refine hq_g 27 14 23 true _ (fun hb => hol_load ty_3 rfl (by first | exact Nat.le_of_ble_eq_true rfl | (simp at hb; first | omega | (dsimp only; omega) | (simp <;> omega))) (by first | exact Nat.le_of_ble_eq_true rfl | (simp at hb; first | omega | (dsimp only; omega) | (simp <;> omega))) (fun h => (by first | rfl | cases h))) rfl rfl rfl rfl (pre1 rfl) rfl rfl rfl ?_
  | refine hq_g2 27 14 23 _ _ true _ (fun hb => hol_load ty_3 rfl (by first | exact Nat.le_of_ble_eq_true rfl | (simp at hb; first | omega | (dsimp only; omega) | (simp <;> omega))) (by first | exact Nat.le_of_ble_eq_true rfl | (simp at hb; first | omega | (dsimp only; omega) | (simp <;> omega))) (fun h => (by first | rfl | cases h))) rfl rfl rfl rfl (pre1 rfl) rfl rfl rfl ?_
  | refine stg 23 (fun hb => hop_load_fp ty_3 rfl (by first | exact Nat.le_of_ble_eq_true rfl | (simp at hb; first | omega | (dsimp only; omega) | (simp <;> omega))) (fun h => (by first | rfl | cases h))) rfl rfl rfl rfl rfl ?_
  | refine sth 23 (fun hb => hop_load_fp ty_3 rfl (by first | exact Nat.le_of_ble_eq_true rfl | (simp at hb; first | omega | (dsimp only; omega) | (simp <;> omega))) (fun h => (by first | rfl | cases h))) rfl rfl rfl rfl rfl ?_
  first
  | refine stg 23 (fun hb => hop_eql rfl rfl) rfl rfl rfl rfl rfl ?_
  | refine sth 23 (fun hb => hop_eql rfl rfl) rfl rfl rfl rfl rfl ?_
  first
  | refine hq_p 29 (hstep_and _ _ rfl rfl rfl) rfl rfl rfl ?_
  | refine hq_p 29 (hstep_or _ _ rfl rfl rfl) rfl rfl rfl ?_
  | refine hq_p 29 (hstep_ite _ _ _ rfl rfl rfl) rfl rfl rfl ?_
  | refine hq_p 29 (hstep_pick _ _ _ _ rfl rfl rfl (fun _ => .refl _) (fun _ => .refl _)) rfl rfl rfl ?_
  refine stm rfl rfl rfl ?_
  first
  | refine stg 30 (fun hb => hop_move rfl) rfl rfl rfl rfl rfl ?_
  | refine sth 30 (fun hb => hop_move rfl) rfl rfl rfl rfl rfl ?_
  first
  | refine stg 30 (fun hb => hop_ia_sl el_49 rfl rfl (by first | exact Nat.le_of_ble_eq_true rfl | (simp at hb; first | omega | (dsimp only; omega) | (simp <;> omega))) (by first | exact Nat.le_of_ble_eq_true rfl | (simp at hb; first | omega | (dsimp only; omega) | (simp <;> omega))) (by first | exact Nat.le_of_ble_eq_true rfl | (simp at hb; first | omega | (dsimp only; omega) | (simp <;> omega)))) rfl rfl rfl rfl rfl ?_
  | refine sth 30 (fun hb => hop_ia_sl el_49 rfl rfl (by first | exact Nat.le_of_ble_eq_true rfl | (simp at hb; first | omega | (dsimp only; omega) | (simp <;> omega))) (by first | exact Nat.le_of_ble_eq_true rfl | (simp at hb; first | omega | (dsimp only; omega) | (simp <;> omega))) (by first | exact Nat.le_of_ble_eq_true rfl | (simp at hb; first | omega | (dsimp only; omega) | (simp <;> omega)))) rfl rfl rfl rfl rfl ?_
  | refine hq_g 32 21 30 true _ (fun hb => hol_ia_os el_49 rfl rfl (by first | exact Nat.le_of_ble_eq_true rfl | (simp at hb; first | omega | (dsimp only; omega) | (simp <;> omega))) (by first | exact Nat.le_of_ble_eq_true rfl | (simp at hb; first | omega | (dsimp only; omega) | (simp <;> omega)))) rfl rfl rfl rfl (pre1 rfl) rfl rfl rfl ?_
  | refine hq_g2 32 21 30 _ _ true _ (fun hb => hol_ia_os el_49 rfl rfl (by first | exact Nat.le_of_ble_eq_true rfl | (simp at hb; first | omega | (dsimp only; omega) | (simp <;> omega))) (by first | exact Nat.le_of_ble_eq_true rfl | (simp at hb; first | omega | (dsimp only; omega) | (simp <;> omega)))) rfl rfl rfl rfl (pre1 rfl) rfl rfl rfl ?_
  first
  | refine stg 30 (fun hb => hop_fa fd_75_1 rfl) rfl rfl rfl rfl rfl ?_
  | refine sth 30 (fun hb => hop_fa fd_75_1 rfl) rfl rfl rfl rfl rfl ?_
  | refine stg 30 (fun hb => hop_fa_fp fd_75_1 rfl (by first | exact Nat.le_of_ble_eq_true rfl | (simp at hb; first | omega | (dsimp only; omega) | (simp <;> omega)))) rfl rfl rfl rfl rfl ?_
  | refine sth 30 (fun hb => hop_fa_fp fd_75_1 rfl (by first | exact Nat.le_of_ble_eq_true rfl | (simp at hb; first | omega | (dsimp only; omega) | (simp <;> omega)))) rfl rfl rfl rfl rfl ?_
  first
  | refine hq_g 34 21 30 true _ (fun hb => hol_load ty_3 rfl (by first | exact Nat.le_of_ble_eq_true rfl | (simp at hb; first | omega | (dsimp only; omega) | (simp <;> omega))) (by first | exact Nat.le_of_ble_eq_true rfl | (simp at hb; first | omega | (dsimp only; omega) | (simp <;> omega))) (fun h => (by first | rfl | cases h))) rfl rfl rfl rfl (pre1 rfl) rfl rfl rfl ?_
  | refine hq_g2 34 21 30 _ _ true _ (fun hb => hol_load ty_3 rfl (by first | exact Nat.le_of_ble_eq_true rfl | (simp at hb; first | omega | (dsimp only; omega) | (simp <;> omega))) (by first | exact Nat.le_of_ble_eq_true rfl | (simp at hb; first | omega | (dsimp only; omega) | (simp <;> omega))) (fun h => (by first | rfl | cases h))) rfl rfl rfl rfl (pre1 rfl) rfl rfl rfl ?_
  | refine stg 30 (fun hb => hop_load_fp ty_3 rfl (by first | exact Nat.le_of_ble_eq_true rfl | (simp at hb; first | omega | (dsimp only; omega) | (simp <;> omega))) (fun h => (by first | rfl | cases h))) rfl rfl rfl rfl rfl ?_
  | refine sth 30 (fun hb => hop_load_fp ty_3 rfl (by first | exact Nat.le_of_ble_eq_true rfl | (simp at hb; first | omega | (dsimp only; omega) | (simp <;> omega))) (fun h => (by first | rfl | cases h))) rfl rfl rfl rfl rfl ?_
  first
  | refine stg 30 (fun hb => hop_eql rfl rfl) rfl rfl rfl rfl rfl ?_
  | refine sth 30 (fun hb => hop_eql rfl rfl) rfl rfl rfl rfl rfl ?_
  first
  | refine hq_p 36 (hstep_and _ _ rfl rfl rfl) rfl rfl rfl ?_
  | refine hq_p 36 (hstep_or _ _ rfl rfl rfl) rfl rfl rfl ?_
  | refine hq_p 36 (hstep_ite _ _ _ rfl rfl rfl) rfl rfl rfl ?_
  | refine hq_p 36 (hstep_pick _ _ _ _ rfl rfl rfl (fun _ => .refl _) (fun _ => .refl _)) rfl rfl rfl ?_
  refine stm rfl rfl rfl ?_
  first
  | refine stg 37 (fun hb => hop_move rfl) rfl rfl rfl rfl rfl ?_
  | refine sth 37 (fun hb => hop_move rfl) rfl rfl rfl rfl rfl ?_
  first
  | refine stg 37 (fun hb => hop_ia_sl el_49 rfl rfl (by first | exact Nat.le_of_ble_eq_true rfl | (simp at hb; first | omega | (dsimp only; omega) | (simp <;> omega))) (by first | exact Nat.le_of_ble_eq_true rfl | (simp at hb; first | omega | (dsimp only; omega) | (simp <;> omega))) (by first | exact Nat.le_of_ble_eq_true rfl | (simp at hb; first | omega | (dsimp only; omega) | (simp <;> omega)))) rfl rfl rfl rfl rfl ?_
  | refine sth 37 (fun hb => hop_ia_sl el_49 rfl rfl (by first | exact Nat.le_of_ble_eq_true rfl | (simp at hb; first | omega | (dsimp only; omega) | (simp <;> omega))) (by first | exact Nat.le_of_ble_eq_true rfl | (simp at hb; first | omega | (dsimp only; omega) | (simp <;> omega))) (by first | exact Nat.le_of_ble_eq_true rfl | (simp at hb; first | omega | (dsimp only; omega) | (simp <;> omega)))) rfl rfl rfl rfl rfl ?_
  | refine hq_g 39 28 37 true _ (fun hb => hol_ia_os el_49 rfl rfl (by first | exact Nat.le_of_ble_eq_true rfl | (simp at hb; first | omega | (dsimp only; omega) | (simp <;> omega))) (by first | exact Nat.le_of_ble_eq_true rfl | (simp at hb; first | omega | (dsimp only; omega) | (simp <;> omega)))) rfl rfl rfl rfl (pre1 rfl) rfl rfl rfl ?_
  | refine hq_g2 39 28 37 _ _ true _ (fun hb => hol_ia_os el_49 rfl rfl (by first | exact Nat.le_of_ble_eq_true rfl | (simp at hb; first | omega | (dsimp only; omega) | (simp <;> omega))) (by first | exact Nat.le_of_ble_eq_true rfl | (simp at hb; first | omega | (dsimp only; omega) | (simp <;> omega)))) rfl rfl rfl rfl (pre1 rfl) rfl rfl rfl ?_
  first
  | refine stg 37 (fun hb => hop_fa fd_75_0 rfl) rfl rfl rfl rfl rfl ?_
  | refine sth 37 (fun hb => hop_fa fd_75_0 rfl) rfl rfl rfl rfl rfl ?_
  | refine stg 37 (fun hb => hop_fa_fp fd_75_0 rfl (by first | exact Nat.le_of_ble_eq_true rfl | (simp at hb; first | omega | (dsimp only; omega) | (simp <;> omega)))) rfl rfl rfl rfl rfl ?_
  | refine sth 37 (fun hb => hop_fa_fp fd_75_0 rfl (by first | exact Nat.le_of_ble_eq_true rfl | (simp at hb; first | omega | (dsimp only; omega) | (simp <;> omega)))) rfl rfl rfl rfl rfl ?_
  first
  | refine hq_g 41 28 37 true _ (fun hb => hol_load ty_3 rfl (by first | exact Nat.le_of_ble_eq_true rfl | (simp at hb; first | omega | (dsimp only; omega) | (simp <;> omega))) (by first | exact Nat.le_of_ble_eq_true rfl | (simp at hb; first | omega | (dsimp only; omega) | (simp <;> omega))) (fun h => (by first | rfl | cases h))) rfl rfl rfl rfl (pre1 rfl) rfl rfl rfl ?_
  | refine hq_g2 41 28 37 _ _ true _ (fun hb => hol_load ty_3 rfl (by first | exact Nat.le_of_ble_eq_true rfl | (simp at hb; first | omega | (dsimp only; omega) | (simp <;> omega))) (by first | exact Nat.le_of_ble_eq_true rfl | (simp at hb; first | omega | (dsimp only; omega) | (simp <;> omega))) (fun h => (by first | rfl | cases h))) rfl rfl rfl rfl (pre1 rfl) rfl rfl rfl ?_
  | refine stg 37 (fun hb => hop_load_fp ty_3 rfl (by first | exact Nat.le_of_ble_eq_true rfl | (simp at hb; first | omega | (dsimp only; omega) | (simp <;> omega))) (fun h => (by first | rfl | cases h))) rfl rfl rfl rfl rfl ?_
  | refine sth 37 (fun hb => hop_load_fp ty_3 rfl (by first | exact Nat.le_of_ble_eq_true rfl | (simp at hb; first | omega | (dsimp only; omega) | (simp <;> omega))) (fun h => (by first | rfl | cases h))) rfl rfl rfl rfl rfl ?_
  first
  | refine stg 37 (fun hb => hop_eql rfl rfl) rfl rfl rfl rfl rfl ?_
  | refine sth 37 (fun hb => hop_eql rfl rfl) rfl rfl rfl rfl rfl ?_
  first
  | refine hq_p 43 (hstep_and _ _ rfl rfl rfl) rfl rfl rfl ?_
  | refine hq_p 43 (hstep_or _ _ rfl rfl rfl) rfl rfl rfl ?_
  | refine hq_p 43 (hstep_ite _ _ _ rfl rfl rfl) rfl rfl rfl ?_
  | refine hq_p 43 (hstep_pick _ _ _ _ rfl rfl rfl (fun _ => .refl _) (fun _ => .refl _)) rfl rfl rfl ?_
  refine stm rfl rfl rfl ?_
  first
  | refine stg 44 (fun hb => hop_move rfl) rfl rfl rfl rfl rfl ?_
  | refine sth 44 (fun hb => hop_move rfl) rfl rfl rfl rfl rfl ?_
  first
  | refine stg 44 (fun hb => hop_call0 (xs := [_]) (hsh) ⟨rfl, trivial⟩ ⟨(Fz.eq rfl), trivial⟩) rfl rfl rfl rfl rfl ?_
  | refine sth 44 (fun hb => hop_call0 (xs := [_]) (hsh) ⟨rfl, trivial⟩ ⟨(Fz.eq rfl), trivial⟩) rfl rfl rfl rfl rfl ?_
  first
  | refine stg 44 (fun hb => hop_seq_l rfl rfl) rfl rfl rfl rfl rfl ?_
  | refine sth 44 (fun hb => hop_seq_l rfl rfl) rfl rfl rfl rfl rfl ?_
  first
  | refine hq_p 48 (hstep_and _ _ rfl rfl rfl) rfl rfl rfl ?_
  | refine hq_p 48 (hstep_or _ _ rfl rfl rfl) rfl rfl rfl ?_
  | refine hq_p 48 (hstep_ite _ _ _ rfl rfl rfl) rfl rfl rfl ?_
  | refine hq_p 48 (hstep_pick _ _ _ _ rfl rfl rfl (fun _ => .refl _) (fun _ => .refl _)) rfl rfl rfl ?_
  refine sta rfl rfl rfl ?_
  refine hseq_nilU (by rfl) (by simp only [dropUn, slots]; exact rfl) ?_
  refine h3 _ ?_
  refine hw_ret ?_
  refine hq_ret1 rfl (rval_tmp rfl) [] rfl pre0 ?_
  exact fz_bool (by decide)
end Go.Proofs.YtmcchhmgchgaaaaDoor

