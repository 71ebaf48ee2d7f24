/-
  The law of what is lexed, shown, and lexed again.
-/
import Derived.Test.YtijpdbjcmnpobaaDoorLx10
import Derived.Test.YtijpdbjcmnpobaaDoorLexB
namespace Go.Proofs.YtijpdbjcmnpobaaDoor
set_option linter.unusedSimpArgs false
set_option linter.unusedVariables false
set_option maxRecDepth 100000
open Go.RowKit

theorem lexR_err {s : List UInt8} : ∀ {f i : Nat} {out : List Sg} {e : Int × Int}, lexR s f i out = .error e → e.2 ≠ 0
  | 0, i, out, e, h => by cases h
  | f + 1, i, out, e, h => by
    simp only [lexR] at h
    split at h
    · cases h
    rename_i hi
    split at h
    · exact lexR_err h
    split at h
    · split at h
      · injection h with h; subst h; show (4 : Int) ≠ 0; decide
      · injection h with h; subst h; exact wrong_ne s i
    · split at h
      · rename_i e' he
        injection h with h; subst h
        have := one_same s i (by omega)
        rw [he] at this
        exact this.2
      · exact lexR_err h
theorem lexV_err {s : List UInt8} {e : Int × Int} (h : lexV s = .error e) : (lexO (.error e)).2.2 ≠ 0 := lexR_err h
theorem sg_upd (l : List Sg) (k : Nat) (a : Int) : ldv true 5 (upd (fun _ => sgF (l.getD k default)) 0 1 1 (fun _ => intV a) 0) 0 = sgH { l.getD k default with at_ := a } := by
  show HV.agg 5 _ = HV.agg 5 _
  congr 1
  funext j
  match j with
  | 0 => rfl
  | 1 => rfl
  | 2 => rfl
  | 3 => rfl
  | j + 4 => rfl
theorem lexBack_h (s : List UInt8) : HPure Tryd.prog 7 [strV s] (boolV true) := by
  have hlen := lexO_len s
  generalize hr : lexO (lexV s) = r at hlen
  have hback : r.2.2 = 0 → (∀ x ∈ r.1, SgOk x) ∧ (showL r.1).length ≤ 60 * r.1.length ∧ ∃ l', lexO (lexV (showL r.1)) = (l', 0, 0) ∧ SameBut r.1 l' := by
    intro h0
    cases hv : lexV s with
    | error e => 
      rw [hv] at hr; subst hr
      exact absurd h0 (lexV_err hv)
    | ok l =>
      rw [hv] at hr; subst hr
      have hW := lexV_W hv
      obtain ⟨l', e, hs⟩ := lex_back hv hlen
      exact ⟨fun x hx => (hW x hx).ok, showG_len hW, l', by show lexO (lexV (showL l)) = _; rw [e]; rfl, hs⟩
  have hnil : r.2.2 ≠ 0 → r.1.length = 0 := by
    intro h0
    cases hv : lexV s with
    | error e => rw [hv] at hr; subst hr; rfl
    | ok l => rw [hv] at hr; subst hr; exact absurd rfl h0
  refine hpure_of Tryd.func7 rfl (by kernel_rfl) _ _ _ rfl 68 rfl rfl (fun w F => ?_)
  refine hw_seq (fun Nh1 h1 => ?_)
  refine hw_region ?_
  refine hq_ 2 (hop_assign rfl) rfl rfl pre0 rfl rfl ?_
  refine hseq_nil ?_
  refine h1 _ ?_
  refine hw_seq (fun Nh2 h2 => ?_)
  refine hw_seq (fun Nh3 h3 => ?_)
  refine hw_region ?_
  refine hq_ 11 (hop_move rfl) rfl rfl pre0 rfl rfl ?_
  refine hq_ 12 (hop_len_strl (T := 9) rfl (by kernel_rfl) rfl) rfl rfl pre0 rfl rfl ?_
  refine hq_ 13 (hop_gtr rfl rfl) rfl rfl pre0 rfl rfl ?_
  refine hseq_nil ?_
  refine h3 _ ?_
  refine hw_cond _ rfl (fun hc0 => ?_) (fun hc0 => ?_)
  · have hr0 := hc0; (try simp only [decide_eq_true_eq, decide_eq_false_iff_not, Bool.and_eq_true, Bool.or_eq_true, Bool.not_eq_true', Bool.or_eq_false_iff, beq_iff_eq, bne_iff_ne, ne_eq, beq_eq_false_iff_ne, bne_eq_false_iff_eq, Bool.not_eq_true, Bool.not_eq_false, Bool.not_eq_false', Int.toNat_natCast, Int.reduceToNat] at hc0)
    refine hw_seq (fun Nh4 h4 => ?_)
    refine hw_region ?_
    refine hq_ 14 (hop_call0 (xs := []) (live_h05) trivial trivial) rfl rfl pre0 rfl rfl ?_
    refine hq_ 2 (hop_assign rfl) rfl rfl pre0 rfl rfl ?_
    refine hseq_nil ?_
    refine h4 _ ?_
    refine hw_ret ?_
    refine hq_then_ret ?_
    refine hq_ret1 rfl (rval_tmp rfl) [] rfl pre0 ?_
    exact .imm _
  · have hr0 := hc0; (try simp only [decide_eq_true_eq, decide_eq_false_iff_not, Bool.and_eq_true, Bool.or_eq_true, Bool.not_eq_true', Bool.or_eq_false_iff, beq_iff_eq, bne_iff_ne, ne_eq, beq_eq_false_iff_ne, bne_eq_false_iff_eq, Bool.not_eq_true, Bool.not_eq_false, Bool.not_eq_false', Int.toNat_natCast, Int.reduceToNat] at hc0)
    refine hw_skip ?_
    refine h2 _ ?_
    refine hw_seq (fun Nh5 h5 => ?_)
    refine hw_region ?_
    refine hq_ 16 (hop_move rfl) rfl rfl pre0 rfl rfl ?_
    refine hq_ 17 (hop_call0 (xs := [_]) ((show HPure Tryd.prog 22 [strV s] (lexH r) from (by rw [← hr]; exact lex_h s (by omega)))) ⟨rfl, trivial⟩ ⟨(Fz.eq rfl), trivial⟩) rfl rfl pre0 rfl rfl ?_
    refine hq_ 15 (hop_move rfl) rfl rfl pre0 rfl rfl ?_
    refine hq_ 18 (hop_extract rfl rfl) rfl rfl pre0 rfl rfl ?_
    refine hq_ 19 (hop_extract rfl rfl) rfl rfl pre0 rfl rfl ?_
    refine hq_ 20 (hop_extract rfl rfl) rfl rfl pre0 rfl rfl ?_
    refine hq_ 3 (hop_assign rfl) rfl rfl pre0 rfl rfl ?_
    refine hq_ 4 (hop_assign rfl) rfl rfl pre0 rfl rfl ?_
    refine hq_ 5 (hop_assign rfl) rfl rfl pre0 rfl rfl ?_
    refine hseq_nil ?_
    refine h5 _ ?_
    refine hw_seq (fun Nh6 h6 => ?_)
    refine hw_seq (fun Nh7 h7 => ?_)
    refine hw_region ?_
    refine hq_ 21 (hop_move rfl) rfl rfl pre0 rfl rfl ?_
    refine hq_ 22 (hop_neq rfl rfl) rfl rfl pre0 rfl rfl ?_
    refine hseq_nil ?_
    refine h7 _ ?_
    refine hw_cond _ rfl (fun hc1 => ?_) (fun hc1 => ?_)
    · have hr1 := hc1; (try simp only [decide_eq_true_eq, decide_eq_false_iff_not, Bool.and_eq_true, Bool.or_eq_true, Bool.not_eq_true', Bool.or_eq_false_iff, beq_iff_eq, bne_iff_ne, ne_eq, beq_eq_false_iff_ne, bne_eq_false_iff_eq, Bool.not_eq_true, Bool.not_eq_false, Bool.not_eq_false', Int.toNat_natCast, Int.reduceToNat] at hc1)
      refine hw_seq (fun Nh8 h8 => ?_)
      refine hw_region ?_
      refine hq_ 23 (hop_move rfl) rfl rfl pre0 rfl rfl ?_
      first
      | refine hq_ 24 (hop_len_sl (T := 33) rfl (elOf_spec el_33).1 rfl) rfl rfl pre0 rfl rfl ?_
      | refine hq_ 24 (hop_len_os (T := 33) rfl (elOf_spec el_33).1 rfl) rfl rfl pre0 rfl rfl ?_
      | refine hq_ 24 (hop_len_nil (T := 33) rfl (elOf_spec el_33).1 rfl) rfl rfl pre0 rfl rfl ?_
      refine hq_ 25 (hop_eql rfl rfl) rfl rfl pre0 rfl rfl ?_
      refine hq_ 26 (hop_move rfl) rfl rfl pre0 rfl rfl ?_
      first
      | refine hq_g 27 3 26 true _ (fun hb => hop_call0 (xs := []) (live_h05) trivial trivial) rfl rfl rfl rfl pre0 rfl rfl rfl ?_
      | refine hq_g2 27 3 26 _ _ true _ (fun hb => hop_call0 (xs := []) (live_h05) trivial trivial) rfl rfl rfl rfl pre0 rfl rfl rfl ?_
      first
      | refine hq_p 28 (hstep_and _ _ rfl rfl rfl) rfl rfl rfl ?_
      | refine hq_p 28 (hstep_or _ _ rfl rfl rfl) rfl rfl rfl ?_
      | refine hq_p 28 (hstep_ite _ _ _ rfl rfl rfl) rfl rfl rfl ?_
      | refine hq_p 28 (hstep_pick _ _ _ _ rfl rfl rfl (fun _ => .refl _) (fun _ => .refl _)) rfl rfl rfl ?_
      refine hq_ 2 (hop_assign rfl) rfl rfl pre0 rfl rfl ?_
      refine hseq_nilU (by rfl) (by simp only [dropUn, slots]; exact rfl) ?_
      refine h8 _ ?_
      refine hw_ret ?_
      refine hq_then_ret ?_
      refine hq_ret1 rfl (rval_tmp rfl) [] rfl pre0 ?_
      exact fz_bool (by have := hnil hc1; simp [this])
    · have hr1 := hc1; (try simp only [decide_eq_true_eq, decide_eq_false_iff_not, Bool.and_eq_true, Bool.or_eq_true, Bool.not_eq_true', Bool.or_eq_false_iff, beq_iff_eq, bne_iff_ne, ne_eq, beq_eq_false_iff_ne, bne_eq_false_iff_eq, Bool.not_eq_true, Bool.not_eq_false, Bool.not_eq_false', Int.toNat_natCast, Int.reduceToNat] at hc1)
      obtain ⟨hok, hsl, l', hl', hsb⟩ := hback hc1; have hll := sameBut_len hsb
      refine hw_skip ?_
      refine h6 _ ?_
      refine hw_seq (fun Nh9 h9 => ?_)
      refine hw_region ?_
      refine hq_ 30 (hop_move rfl) rfl rfl pre0 rfl rfl ?_
      refine hq_ 31 (hop_call0 (xs := [_]) (lexShow_h r.1 (by omega) hok) ⟨rfl, trivial⟩ ⟨(Fz.eq rfl), trivial⟩) rfl rfl pre0 rfl rfl ?_
      refine hq_ 32 (hop_call0 (xs := [_]) ((show HPure Tryd.prog 22 [strV (showL r.1)] (lexH (l', 0, 0)) from (by rw [← hl']; exact lex_h _ (by omega)))) ⟨rfl, trivial⟩ ⟨(Fz.eq rfl), trivial⟩) rfl rfl pre0 rfl rfl ?_
      refine hq_ 29 (hop_move rfl) rfl rfl pre0 rfl rfl ?_
      refine hq_ 33 (hop_extract rfl rfl) rfl rfl pre0 rfl rfl ?_
      refine hq_ 34 (hop_extract rfl rfl) rfl rfl pre0 rfl rfl ?_
      refine hq_ 35 (hop_extract rfl rfl) rfl rfl pre0 rfl rfl ?_
      refine hq_ 6 (hop_assign rfl) rfl rfl pre0 rfl rfl ?_
      refine hq_ 7 (hop_assign rfl) rfl rfl pre0 rfl rfl ?_
      refine hq_ 8 (hop_assign rfl) rfl rfl pre0 rfl rfl ?_
      refine hseq_nil ?_
      refine h9 _ ?_
      refine hw_seq (fun Nh10 h10 => ?_)
      refine hw_seq (fun Nh11 h11 => ?_)
      refine hw_region ?_
      refine hq_ 36 (hop_move rfl) rfl rfl pre0 rfl rfl ?_
      refine hq_ 37 (hop_neq rfl rfl) rfl rfl pre0 rfl rfl ?_
      refine hq_ 38 (hop_move rfl) rfl rfl pre0 rfl rfl ?_
      first
      | refine hq_g 39 2 38 false _ (fun hb => hop_move rfl) rfl rfl rfl rfl pre0 rfl rfl rfl ?_
      | refine hq_g2 39 2 38 _ _ false _ (fun hb => hop_move rfl) rfl rfl rfl rfl pre0 rfl rfl rfl ?_
      first
      | refine hq_g 40 2 38 false _ (fun hb => hop_len_sl (T := 33) rfl (elOf_spec el_33).1 rfl) rfl rfl rfl rfl pre0 rfl rfl rfl ?_
      | refine hq_g2 40 2 38 _ _ false _ (fun hb => hop_len_sl (T := 33) rfl (elOf_spec el_33).1 rfl) rfl rfl rfl rfl pre0 rfl rfl rfl ?_
      | refine hq_g 40 2 38 false _ (fun hb => hop_len_os (T := 33) rfl (elOf_spec el_33).1 rfl) rfl rfl rfl rfl pre0 rfl rfl rfl ?_
      | refine hq_g2 40 2 38 _ _ false _ (fun hb => hop_len_os (T := 33) rfl (elOf_spec el_33).1 rfl) rfl rfl rfl rfl pre0 rfl rfl rfl ?_
      | refine hq_g 40 2 38 false _ (fun hb => hop_len_nil (T := 33) rfl (elOf_spec el_33).1 rfl) rfl rfl rfl rfl pre0 rfl rfl rfl ?_
      | refine hq_g2 40 2 38 _ _ false _ (fun hb => hop_len_nil (T := 33) rfl (elOf_spec el_33).1 rfl) rfl rfl rfl rfl pre0 rfl rfl rfl ?_
      first
      | refine hq_g 41 2 38 false _ (fun hb => hop_move rfl) rfl rfl rfl rfl pre0 rfl rfl rfl ?_
      | refine hq_g2 41 2 38 _ _ false _ (fun hb => hop_move rfl) rfl rfl rfl rfl pre0 rfl rfl rfl ?_
      first
      | refine hq_g 42 2 38 false _ (fun hb => hop_len_sl (T := 33) rfl (elOf_spec el_33).1 rfl) rfl rfl rfl rfl pre0 rfl rfl rfl ?_
      | refine hq_g2 42 2 38 _ _ false _ (fun hb => hop_len_sl (T := 33) rfl (elOf_spec el_33).1 rfl) rfl rfl rfl rfl pre0 rfl rfl rfl ?_
      | refine hq_g 42 2 38 false _ (fun hb => hop_len_os (T := 33) rfl (elOf_spec el_33).1 rfl) rfl rfl rfl rfl pre0 rfl rfl rfl ?_
      | refine hq_g2 42 2 38 _ _ false _ (fun hb => hop_len_os (T := 33) rfl (elOf_spec el_33).1 rfl) rfl rfl rfl rfl pre0 rfl rfl rfl ?_
      | refine hq_g 42 2 38 false _ (fun hb => hop_len_nil (T := 33) rfl (elOf_spec el_33).1 rfl) rfl rfl rfl rfl pre0 rfl rfl rfl ?_
      | refine hq_g2 42 2 38 _ _ false _ (fun hb => hop_len_nil (T := 33) rfl (elOf_spec el_33).1 rfl) rfl rfl rfl rfl pre0 rfl rfl rfl ?_
      first
      | refine hq_g 43 2 38 false _ (fun hb => hop_neq rfl rfl) rfl rfl rfl rfl pre0 rfl rfl rfl ?_
      | refine hq_g2 43 2 38 _ _ false _ (fun hb => hop_neq rfl rfl) rfl rfl rfl rfl pre0 rfl rfl rfl ?_
      first
      | refine hq_p 44 (hstep_and _ _ rfl rfl rfl) rfl rfl rfl ?_
      | refine hq_p 44 (hstep_or _ _ rfl rfl rfl) rfl rfl rfl ?_
      | refine hq_p 44 (hstep_ite _ _ _ rfl rfl rfl) rfl rfl rfl ?_
      | refine hq_p 44 (hstep_pick _ _ _ _ rfl rfl rfl (fun _ => .refl _) (fun _ => .refl _)) rfl rfl rfl ?_
      refine hseq_nilU (by rfl) (by simp only [dropUn, slots]; exact rfl) ?_
      refine h11 _ ?_
      refine hw_cond _ rfl (fun hc2 => ?_) (fun hc2 => ?_)
      · have hr2 := hc2; (try simp only [decide_eq_true_eq, decide_eq_false_iff_not, Bool.and_eq_true, Bool.or_eq_true, Bool.not_eq_true', Bool.or_eq_false_iff, beq_iff_eq, bne_iff_ne, ne_eq, beq_eq_false_iff_ne, bne_eq_false_iff_eq, Bool.not_eq_true, Bool.not_eq_false, Bool.not_eq_false', Int.toNat_natCast, Int.reduceToNat] at hc2)
        exfalso; simp [hll] at hr2
      · have hr2 := hc2; (try simp only [decide_eq_true_eq, decide_eq_false_iff_not, Bool.and_eq_true, Bool.or_eq_true, Bool.not_eq_true', Bool.or_eq_false_iff, beq_iff_eq, bne_iff_ne, ne_eq, beq_eq_false_iff_ne, bne_eq_false_iff_eq, Bool.not_eq_true, Bool.not_eq_false, Bool.not_eq_false', Int.toNat_natCast, Int.reduceToNat] at hc2)
        refine hw_skip ?_
        refine h10 _ ?_
        refine hw_seq (fun Nh12 h12 => ?_)
        refine hw_seq (fun Nh13 h13 => ?_)
        refine hw_region ?_
        refine hq_ 9 (hop_assign rfl) rfl rfl pre0 rfl rfl ?_
        refine hseq_nil ?_
        refine h13 _ ?_
        refine hw_block ?_
        refine hw_loopc (α := Nat) (fun x c => ⟨68, [(3, .v (sgsV r.1)), (6, .v (sgsV l')), (9, .v (intV x))], [], c⟩) (fun x => x ≤ r.1.length) (fun x => r.1.length - x) (0) (by exact Nat.zero_le _) (hsub_of rfl (Nat.le_refl _) (TmSub.cons rfl (Sb.refl _) (TmSub.cons rfl (Sb.refl _) (TmSub.cons rfl (Sb.refl _) TmSub.nil))) HpSub.nil) (fun k c hx NhL14 hL14 => ?_)
        (try dsimp only at hx hL14 ⊢)
        refine hw_seq (fun Nh15 h15 => ?_)
        refine hw_seq (fun Nh16 h16 => ?_)
        refine hw_region ?_
        refine hq_ 45 (hop_move rfl) rfl rfl pre0 rfl rfl ?_
        refine hq_ 46 (hop_move rfl) rfl rfl pre0 rfl rfl ?_
        first
        | refine hq_ 47 (hop_len_sl (T := 33) rfl (elOf_spec el_33).1 rfl) rfl rfl pre0 rfl rfl ?_
        | refine hq_ 47 (hop_len_os (T := 33) rfl (elOf_spec el_33).1 rfl) rfl rfl pre0 rfl rfl ?_
        | refine hq_ 47 (hop_len_nil (T := 33) rfl (elOf_spec el_33).1 rfl) rfl rfl pre0 rfl rfl ?_
        refine hq_ 48 (hop_lss rfl rfl) rfl rfl pre0 rfl rfl ?_
        refine hseq_nil ?_
        refine h16 _ ?_
        refine hw_cond _ rfl (fun hc3 => ?_) (fun hc3 => ?_)
        · have hr3 := hc3; (try simp only [decide_eq_true_eq, decide_eq_false_iff_not, Bool.and_eq_true, Bool.or_eq_true, Bool.not_eq_true', Bool.or_eq_false_iff, beq_iff_eq, bne_iff_ne, ne_eq, beq_eq_false_iff_ne, bne_eq_false_iff_eq, Bool.not_eq_true, Bool.not_eq_false, Bool.not_eq_false', Int.toNat_natCast, Int.reduceToNat] at hc3)
          have hkl : k < r.1.length := (by omega); have hat := sameBut_at hsb k hkl
          refine hw_skip ?_
          refine h15 _ ?_
          refine hw_seq (fun Nh17 h17 => ?_)
          refine hw_block ?_
          refine hw_seq (fun Nh18 h18 => ?_)
          refine hw_region ?_
          refine hq_ 51 (hop_move rfl) rfl rfl pre0 rfl rfl ?_
          refine hq_ 52 (hop_move rfl) rfl rfl pre0 rfl rfl ?_
          first
          | refine hq_ 53 (hop_ia_sl el_33 rfl rfl (by first | exact Nat.le_of_ble_eq_true rfl | omega | (dsimp only; omega) | (simp <;> omega)) (by first | exact Nat.le_of_ble_eq_true rfl | omega | (dsimp only; omega) | (simp <;> omega)) (by first | exact Nat.le_of_ble_eq_true rfl | omega | (dsimp only; omega) | (simp <;> omega))) rfl rfl pre0 rfl rfl ?_
          | refine hq_ 53 (hol_ia_os el_33 rfl rfl (by first | exact Nat.le_of_ble_eq_true rfl | omega | (dsimp only; omega) | (simp <;> omega)) (by first | exact Nat.le_of_ble_eq_true rfl | omega | (dsimp only; omega) | (simp <;> omega))) rfl rfl (pre1 rfl) rfl rfl ?_
          first
          | refine hq_ 54 (HOp.val (v' := sgH (r.1.getD k default)) (hol_load ty_41 rfl (by first | exact Nat.le_of_ble_eq_true rfl | omega | (dsimp only; omega) | (simp <;> omega)) (by first | exact Nat.le_of_ble_eq_true rfl | omega | (dsimp only; omega) | (simp <;> omega)) (fun h => by first | rfl | cases h)) (sg_ldv _ _)) rfl rfl (pre1 rfl) rfl rfl ?_
          | refine hq_ 54 (HOp.val (v' := sgH (r.1.getD k default)) (hop_load_fp ty_41 rfl (by first | exact Nat.le_of_ble_eq_true rfl | omega | (dsimp only; omega) | (simp <;> omega)) (fun h => by first | rfl | cases h)) (sg_ldv _ _)) rfl rfl pre0 rfl rfl ?_
          refine hm_1 10 (hop_alloc (id := 10) (sz := 5) zc_41 rfl rfl (by first | exact Nat.le_of_ble_eq_true rfl | omega | (dsimp only; omega) | (simp <;> omega)) (by first | exact Nat.le_of_ble_eq_true rfl | omega | (dsimp only; omega) | (simp <;> omega))) rfl rfl pre0 rfl rfl (c' := c + 1) rfl ?_
          first
          | refine hm_s1 (hol_storeW ty_41 rfl rfl rfl rfl) rfl rfl (pre1 rfl) (c' := c + 2) rfl ?_
          | refine hm_s1 (hol_store ty_41 rfl rfl rfl rfl (by first | exact Nat.le_of_ble_eq_true rfl | omega | (dsimp only; omega) | (simp <;> omega)) (by first | exact Nat.le_of_ble_eq_true rfl | omega | (dsimp only; omega) | (simp <;> omega)) (by first | exact Nat.le_of_ble_eq_true rfl | omega | (dsimp only; omega) | (simp <;> omega))) rfl rfl (pre1 rfl) (c' := c + 2) rfl ?_
          refine hseq_nil ?_
          refine h18 _ ?_
          refine hw_seq (fun Nh19 h19 => ?_)
          refine hw_region ?_
          refine hq_ 55 (hop_move rfl) rfl rfl pre0 rfl rfl ?_
          refine hq_ 56 (hop_move rfl) rfl rfl pre0 rfl rfl ?_
          first
          | refine hq_ 57 (hop_ia_sl el_33 rfl rfl (by first | exact Nat.le_of_ble_eq_true rfl | omega | (dsimp only; omega) | (simp <;> omega)) (by first | exact Nat.le_of_ble_eq_true rfl | omega | (dsimp only; omega) | (simp <;> omega)) (by first | exact Nat.le_of_ble_eq_true rfl | omega | (dsimp only; omega) | (simp <;> omega))) rfl rfl pre0 rfl rfl ?_
          | refine hq_ 57 (hol_ia_os el_33 rfl rfl (by first | exact Nat.le_of_ble_eq_true rfl | omega | (dsimp only; omega) | (simp <;> omega)) (by first | exact Nat.le_of_ble_eq_true rfl | omega | (dsimp only; omega) | (simp <;> omega))) rfl rfl (pre1 rfl) rfl rfl ?_
          first
          | refine hq_ 58 (hop_fa fd_41_1 rfl) rfl rfl pre0 rfl rfl ?_
          | refine hq_ 58 (hop_fa_fp fd_41_1 rfl (by first | exact Nat.le_of_ble_eq_true rfl | omega | (dsimp only; omega) | (simp <;> omega))) rfl rfl pre0 rfl rfl ?_
          first
          | refine hq_ 59 (HOp.val (v' := intV (l'.getD k default).at_) (hol_load ty_3 rfl (by first | exact Nat.le_of_ble_eq_true rfl | omega | (dsimp only; omega) | (simp <;> omega)) (by first | exact Nat.le_of_ble_eq_true rfl | omega | (dsimp only; omega) | (simp <;> omega)) (fun h => by first | rfl | cases h)) (rfl)) rfl rfl (pre1 rfl) rfl rfl ?_
          | refine hq_ 59 (HOp.val (v' := intV (l'.getD k default).at_) (hop_load_fp ty_3 rfl (by first | exact Nat.le_of_ble_eq_true rfl | omega | (dsimp only; omega) | (simp <;> omega)) (fun h => by first | rfl | cases h)) (rfl)) rfl rfl pre0 rfl rfl ?_
          first
          | refine hq_ 60 (hop_fa fd_41_1 rfl) rfl rfl pre0 rfl rfl ?_
          | refine hq_ 60 (hop_fa_fp fd_41_1 rfl (by first | exact Nat.le_of_ble_eq_true rfl | omega | (dsimp only; omega) | (simp <;> omega))) rfl rfl pre0 rfl rfl ?_
          first
          | refine hm_s1 (hol_storeW ty_3 rfl rfl rfl rfl) rfl rfl (pre1 rfl) (c' := c + 3) rfl ?_
          | refine hm_s1 (hol_store ty_3 rfl rfl rfl rfl (by first | exact Nat.le_of_ble_eq_true rfl | omega | (dsimp only; omega) | (simp <;> omega)) (by first | exact Nat.le_of_ble_eq_true rfl | omega | (dsimp only; omega) | (simp <;> omega)) (by first | exact Nat.le_of_ble_eq_true rfl | omega | (dsimp only; omega) | (simp <;> omega))) rfl rfl (pre1 rfl) (c' := c + 3) rfl ?_
          refine hseq_nil ?_
          refine h19 _ ?_
          refine hw_seq (fun Nh20 h20 => ?_)
          refine hd_start ?_
          first
          | refine hd_q 61 (HOp.val (v' := sgH { r.1.getD k default with at_ := (l'.getD k default).at_ }) (hol_load ty_41 rfl (by first | exact Nat.le_of_ble_eq_true rfl | omega | (dsimp only; omega) | (simp <;> omega)) (by first | exact Nat.le_of_ble_eq_true rfl | omega | (dsimp only; omega) | (simp <;> omega)) (fun h => by first | rfl | cases h)) (sg_upd _ _ _)) rfl rfl (pre1 rfl) rfl rfl (k' := 1) rfl ?_
          | refine hd_q 61 (HOp.val (v' := sgH { r.1.getD k default with at_ := (l'.getD k default).at_ }) (hop_load_fp ty_41 rfl (by first | exact Nat.le_of_ble_eq_true rfl | omega | (dsimp only; omega) | (simp <;> omega)) (fun h => by first | rfl | cases h)) (sg_upd _ _ _)) rfl rfl pre0 rfl rfl (k' := 1) rfl ?_
          refine hd_q 62 (hop_move rfl) rfl rfl pre0 rfl rfl (k' := 2) rfl ?_
          refine hd_q 63 (hop_move rfl) rfl rfl pre0 rfl rfl (k' := 3) rfl ?_
          first
          | refine hd_q 64 (hop_ia_sl el_33 rfl rfl (by first | exact Nat.le_of_ble_eq_true rfl | omega | (dsimp only; omega) | (simp <;> omega)) (by first | exact Nat.le_of_ble_eq_true rfl | omega | (dsimp only; omega) | (simp <;> omega)) (by first | exact Nat.le_of_ble_eq_true rfl | omega | (dsimp only; omega) | (simp <;> omega))) rfl rfl pre0 rfl rfl (k' := 4) rfl ?_
          | refine hd_q 64 (hol_ia_os el_33 rfl rfl (by first | exact Nat.le_of_ble_eq_true rfl | omega | (dsimp only; omega) | (simp <;> omega)) (by first | exact Nat.le_of_ble_eq_true rfl | omega | (dsimp only; omega) | (simp <;> omega))) rfl rfl (pre1 rfl) rfl rfl (k' := 4) rfl ?_
          first
          | refine hd_q 65 (HOp.val (v' := sgH (l'.getD k default)) (hol_load ty_41 rfl (by first | exact Nat.le_of_ble_eq_true rfl | omega | (dsimp only; omega) | (simp <;> omega)) (by first | exact Nat.le_of_ble_eq_true rfl | omega | (dsimp only; omega) | (simp <;> omega)) (fun h => by first | rfl | cases h)) (sg_ldv _ _)) rfl rfl (pre1 rfl) rfl rfl (k' := 5) rfl ?_
          | refine hd_q 65 (HOp.val (v' := sgH (l'.getD k default)) (hop_load_fp ty_41 rfl (by first | exact Nat.le_of_ble_eq_true rfl | omega | (dsimp only; omega) | (simp <;> omega)) (fun h => by first | rfl | cases h)) (sg_ldv _ _)) rfl rfl pre0 rfl rfl (k' := 5) rfl ?_
          refine hd_q 66 (hop_neq_sg _ _ (neq41 _ _) guard41 rfl rfl (fun _ _ => rfl) (fun _ _ => rfl)) rfl rfl pre0 rfl rfl (k' := 6) rfl ?_
          refine hd_nil (by kernel_rfl) (by kernel_rfl) (c' := c + 9) rfl ?_
          refine h20 _ ?_
          refine hw_cond _ rfl (fun hc4 => ?_) (fun hc4 => ?_)
          · have hr4 := hc4; (try simp only [decide_eq_true_eq, decide_eq_false_iff_not, Bool.and_eq_true, Bool.or_eq_true, Bool.not_eq_true', Bool.or_eq_false_iff, beq_iff_eq, bne_iff_ne, ne_eq, beq_eq_false_iff_ne, bne_eq_false_iff_eq, Bool.not_eq_true, Bool.not_eq_false, Bool.not_eq_false', Int.toNat_natCast, Int.reduceToNat] at hc4)
            exfalso; rw [← hat] at hr4; simp at hr4
          · have hr4 := hc4; (try simp only [decide_eq_true_eq, decide_eq_false_iff_not, Bool.and_eq_true, Bool.or_eq_true, Bool.not_eq_true', Bool.or_eq_false_iff, beq_iff_eq, bne_iff_ne, ne_eq, beq_eq_false_iff_ne, bne_eq_false_iff_eq, Bool.not_eq_true, Bool.not_eq_false, Bool.not_eq_false', Int.toNat_natCast, Int.reduceToNat] at hc4)
            refine hw_skip ?_
            refine hq_block ?_
            refine h17 _ ?_
            refine hw_region ?_
            refine hq_ 49 (hop_move rfl) rfl rfl pre0 rfl rfl ?_
            first
            | refine hq_ 50 (hop_addi rfl rfl rfl (by first | exact Nat.le_of_ble_eq_true rfl | omega | (dsimp only; omega) | (simp <;> omega)) (by first | exact Nat.le_of_ble_eq_true rfl | omega | (dsimp only; omega) | (simp <;> omega))) rfl rfl pre0 rfl rfl ?_
            | refine hq_ 50 (hop_add rfl rfl) rfl rfl pre0 rfl rfl ?_
            refine hq_ 9 (hop_assign rfl) rfl rfl pre0 rfl rfl ?_
            refine hseq_nil ?_
            exact hL14 (k + 1) _ _ (by (try dsimp only); omega) (by (try dsimp only); omega) (hsub_of rfl (Nat.le_refl _) (TmSub.cons rfl (Sb.refl _) (TmSub.cons rfl (Sb.refl _) (TmSub.cons rfl (Sb.refl _) TmSub.nil))) HpSub.nil)
        · have hr3 := hc3; (try simp only [decide_eq_true_eq, decide_eq_false_iff_not, Bool.and_eq_true, Bool.or_eq_true, Bool.not_eq_true', Bool.or_eq_false_iff, beq_iff_eq, bne_iff_ne, ne_eq, beq_eq_false_iff_ne, bne_eq_false_iff_eq, Bool.not_eq_true, Bool.not_eq_false, Bool.not_eq_false', Int.toNat_natCast, Int.reduceToNat] at hc3)
          refine hw_exit ?_
          refine hq_then_exit ?_
          refine hq_then_exit ?_
          refine hq_block_here ?_
          refine h12 _ ?_
          refine hw_seq (fun Nh21 h21 => ?_)
          refine hw_region ?_
          refine hq_ 67 (hop_call0 (xs := []) (live_h05) trivial trivial) rfl rfl pre0 rfl rfl ?_
          refine hq_ 2 (hop_assign rfl) rfl rfl pre0 rfl rfl ?_
          refine hseq_nil ?_
          refine h21 _ ?_
          refine hw_ret ?_
          refine hq_ret1 rfl (rval_tmp rfl) [] rfl pre0 ?_
          exact .imm _
end Go.Proofs.YtijpdbjcmnpobaaDoor
