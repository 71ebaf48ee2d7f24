/-
  What is right is a tree; what is too long isn't read. Plain lemmas, no program in sight.
-/
import Derived.Test.YtmcchhmgchgaaaaDoorEx10
import Derived.Test.YtmcchhmgchgaaaaDoorLx9
import Derived.Test.YtmcchhmgchgaaaaDoorLx4
import Derived.Test.YtmcchhmgchgaaaaDoorHd
import Derived.Test.YtmcchhmgchgaaaaDoorChecked
import Derived.ProofKit
import Derived.OpenShut
import Derived.ChangeOld
import Derived.Deep.Slices
import Derived.Test.YtmcchhmgchgaaaaDoorRows
import Derived.LaidLaws
import Derived.LaidMore
import Derived.LaidSub
import Derived.HandedShaped
import Derived.Shelf.Vars
import Derived.Stop.Joined
namespace Go.Proofs.YtmcchhmgchgaaaaDoor
set_option linter.unusedSimpArgs false
set_option linter.unusedVariables false

def wloop (R : Nat → Int) (ks : List Int) : Nat → Nat → Int
  | 0, at_ => (at_ : Int)
  | n + 1, at_ => if at_ < 1 ∨ ks.getD n 0 ≠ (at_ : Int) - 1 then -1 else if R (at_ - 1) < 0 then -1 else wloop R ks n (R (at_ - 1)).toNat
def wholeN (e : List Pt) : Nat → Nat → Int
  | 0, _ => -1
  | f + 1, en => wloop (wholeN e f) (e.getD en default).kids (e.getD en default).kids.length en
def fineV (e : List Pt) : Bool := e.all aloneV
def refRightV (e : List Pt) : Bool := fineV e && (decide (e.length = 0) || decide (wholeN e e.length (e.length - 1) = 0))
theorem wloop_le {R : Nat → Int} {ks : List Int} (hR : ∀ k, R k ≤ k) : ∀ n at_, wloop R ks n at_ ≤ at_
  | 0, at_ => Int.le_refl _
  | n + 1, at_ => by
    unfold wloop
    split
    · omega
    · split
      · omega
      · have := wloop_le (ks := ks) hR n (R (at_ - 1)).toNat
        have := hR (at_ - 1); omega
theorem whole_le (e : List Pt) : ∀ f en, wholeN e f en ≤ en
  | 0, en => by show (-1 : Int) ≤ _; omega
  | f + 1, en => wloop_le (whole_le e f) _ _
theorem atP_of {e : List Pt} {b : Nat} {l : List Pt} (hl : b + l.length ≤ e.length) (h : ∀ i, i < l.length → e.getD (b + i) default = l.getD i default) : AtP e b l := by
  refine ⟨e.take b, e.drop (b + l.length), ?_, by rw [List.length_take]; omega⟩
  apply List.ext_getElem?
  intro i
  rw [List.append_assoc]
  have hbl : (e.take b).length = b := by rw [List.length_take]; omega
  rcases Nat.lt_or_ge i b with h1 | h1
  · rw [List.getElem?_append_left (by omega), List.getElem?_take, if_pos h1]
  · rw [List.getElem?_append_right (by omega), hbl]
    rcases Nat.lt_or_ge (i - b) l.length with h2 | h2
    · rw [List.getElem?_append_left h2]
      have := h (i - b) h2
      rw [show b + (i - b) = i by omega, List.getD_eq_getElem?_getD, List.getD_eq_getElem?_getD, List.getElem?_eq_getElem (show i < e.length by omega), List.getElem?_eq_getElem h2] at this
      rw [List.getElem?_eq_getElem (show i < e.length by omega), List.getElem?_eq_getElem h2]
      exact congrArg some this
    · rw [List.getElem?_append_right h2, List.getElem?_drop]
      congr 1; omega
theorem atP_join {e : List Pt} {b b' : Nat} {l k : List Pt} (h : AtP e b l) (h2 : AtP e b' k) (hb : b' = b + l.length) : AtP e b (l ++ k) := by
  have hl : b + l.length ≤ e.length := by obtain ⟨u, v, rfl, rfl⟩ := h; simp only [List.length_append]; omega
  have hk : b' + k.length ≤ e.length := by obtain ⟨u, v, rfl, rfl⟩ := h2; simp only [List.length_append]; omega
  refine atP_of (by rw [List.length_append]; omega) (fun i hi => ?_)
  rcases Nat.lt_or_ge i l.length with h1 | h1
  · rw [(atP_get h h1).1, getD_app h1]
  · obtain ⟨j, rfl⟩ : ∃ j, i = l.length + j := ⟨i - l.length, by omega⟩
    rw [List.length_append] at hi
    have := (atP_get h2 (i := j) (by omega)).1
    rw [show b + (l.length + j) = b' + j by omega, this, getD_right]
theorem atP_one {e : List Pt} {i : Nat} {x : Pt} (hi : i < e.length) (h : e.getD i default = x) : AtP e i [x] :=
  atP_of (by show i + 1 ≤ e.length; omega) (fun j hj => by
    obtain rfl : j = 0 := by simpa using hj
    exact h)
/-- Where 'whole' finds the kids there are trees. -/
theorem wloop_trees {e : List Pt} {R : Nat → Int} {ks : List Int} {en : Nat} (hen : en ≤ e.length) (hR : ∀ k, k < en → 0 ≤ R k → ∃ t : T, t.ok = true ∧ AtP e (R k).toNat (T.flat (R k).toNat t) ∧ (R k).toNat + t.size = k + 1) :
    ∀ (n at_ : Nat), n ≤ ks.length → at_ ≤ en → 0 ≤ wloop R ks n at_ → ∃ ts : List T, T.okL ts = true ∧ ts.length = n ∧ AtP e (wloop R ks n at_).toNat (T.flatL (wloop R ks n at_).toNat ts) ∧ (wloop R ks n at_).toNat + T.sizeL ts = at_ ∧ rootsL (wloop R ks n at_).toNat ts = ks.take n
  | 0, at_, _, ha, h => ⟨[], rfl, rfl, atP_of (by show ((at_ : Int)).toNat + 0 ≤ _; omega) (fun i hi => absurd hi (by simp [T.flatL])), by simp [wloop, T.sizeL], by simp [rootsL]⟩
  | n + 1, at_, hn, ha, h => by
    unfold wloop at h ⊢
    by_cases h1 : at_ < 1 ∨ ks.getD n 0 ≠ (at_ : Int) - 1
    · rw [if_pos h1] at h; exact absurd h (by decide)
    · rw [if_neg h1] at h ⊢
      by_cases h2 : R (at_ - 1) < 0
      · rw [if_pos h2] at h; exact absurd h (by decide)
      · rw [if_neg h2] at h ⊢
        obtain ⟨t, hok, hat, hsz⟩ := hR (at_ - 1) (by omega) (by omega)
        obtain ⟨ts, hokL, hlen, hatL, hszL, hrt⟩ := wloop_trees hen hR n (R (at_ - 1)).toNat (by omega) (by have := t.size_pos; omega) h
        generalize (wloop R ks n (R (at_ - 1)).toNat).toNat = b at hatL hszL hrt ⊢
        refine ⟨ts ++ [t], ?_, by simp [hlen], ?_, by rw [T.sizeL_snoc]; omega, ?_⟩
        · clear hlen hatL hszL hrt
          induction ts with
          | nil => simp [T.okL, hok]
          | cons x ts ih => simp only [List.cons_append, T.okL, Bool.and_eq_true] at hokL ⊢; exact ⟨hokL.1, ih hokL.2⟩
        · rw [T.flatL_snoc, hszL]
          exact atP_join hatL hat (by rw [T.flatL_len]; omega)
        · rw [rootsL_snoc, hrt, hszL, List.take_add_one, List.getElem?_eq_getElem (show n < ks.length by omega)]
          congr 1
          have : ks.getD n 0 = (at_ : Int) - 1 := by omega
          rw [List.getD_eq_getElem?_getD, List.getElem?_eq_getElem (show n < ks.length by omega)] at this
          show [T.root _ t] = [ks[n]]
          rw [show ks[n] = (at_ : Int) - 1 from this]
          unfold T.root
          congr 1; omega
theorem alone_tree {x : Pt} {ts : List T} {b : Nat} (hx : aloneV x = true) (hk : rootsL b ts = x.kids) (hok : T.okL ts = true) : ∃ t : T, t.ok = true ∧ T.flat b t = T.flatL b ts ++ [x] := by
  have hl := rootsL_len ts b
  rw [hk] at hl
  unfold aloneV at hx
  obtain ⟨kind, low, high, name, kids⟩ := x
  simp only at hx hk hl
  by_cases h1 : kind = 1
  · rw [if_pos h1] at hx
    simp only [Bool.and_eq_true, decide_eq_true_eq] at hx
    obtain ⟨⟨⟨h2, h3⟩, h4⟩, h5⟩ := hx
    rw [h2] at hl
    have : ts = [] := List.length_eq_zero_iff.1 hl.symm
    subst this
    refine ⟨.name name, by simpa [T.ok] using h5, ?_⟩
    subst h1; subst h3; subst h4
    rw [List.length_eq_zero_iff.1 h2]; rfl
  · rw [if_neg h1] at hx
    by_cases h2 : kind = 2 ∨ kind = 3
    · rw [if_pos h2] at hx
      simp only [Bool.and_eq_true, decide_eq_true_eq] at hx
      obtain ⟨⟨⟨h3, h4⟩, h5⟩, h6⟩ := hx
      refine ⟨.many kind ts, ?_, ?_⟩
      · simp only [T.ok, Bool.and_eq_true, Bool.or_eq_true, decide_eq_true_eq]
        exact ⟨⟨h2, by omega⟩, hok⟩
      · subst h4; subst h5; subst h6; simp only [T.flat, hk]
    · rw [if_neg h2] at hx
      by_cases h3 : kind = 4
      · rw [if_pos h3] at hx
        have hx0 := hx
        simp only [Bool.and_eq_true, decide_eq_true_eq] at hx
        obtain ⟨⟨⟨⟨h4, h5⟩, h6⟩, h7⟩, h8⟩ := hx
        rw [h4] at hl
        match ts, hl, hk, hok with
        | [t], _, hk, hok =>
          simp only [T.okL, Bool.and_eq_true] at hok
          refine ⟨.times low high t, ?_, ?_⟩
          · simp only [T.ok]
            rw [hok.1, decide_eq_true h5, decide_eq_true h6, h7]; rfl
          · subst h3; subst h8; rw [← hk]; simp [T.flat, T.flatL, rootsL]
      · rw [if_neg h3] at hx; cases hx
theorem whole_tree {e : List Pt} (hf : fineV e = true) : ∀ f en, en < e.length → 0 ≤ wholeN e f en → ∃ t : T, t.ok = true ∧ AtP e (wholeN e f en).toNat (T.flat (wholeN e f en).toNat t) ∧ (wholeN e f en).toNat + t.size = en + 1
  | 0, en, _, h => absurd h (by show ¬ (0 : Int) ≤ -1; decide)
  | f + 1, en, hen, h => by
    have hal : aloneV (e.getD en default) = true := by
      rw [List.getD_eq_getElem?_getD, List.getElem?_eq_getElem hen]
      exact List.all_eq_true.1 hf _ (List.getElem_mem hen)
    have hw : wholeN e (f + 1) en = wloop (wholeN e f) (e.getD en default).kids (e.getD en default).kids.length en := rfl
    rw [hw] at h ⊢
    obtain ⟨ts, hok, hlen, hat, hsz, hrt⟩ := wloop_trees (e := e) (R := wholeN e f) (ks := (e.getD en default).kids) (en := en) (by omega) (fun k hk h0 => whole_tree hf f k (by omega) h0) (e.getD en default).kids.length en (Nat.le_refl _) (Nat.le_refl _) h
    generalize (wloop (wholeN e f) (e.getD en default).kids (e.getD en default).kids.length en).toNat = b at hat hsz hrt ⊢
    rw [List.take_length] at hrt
    obtain ⟨t, htok, hfl⟩ := alone_tree hal hrt hok
    refine ⟨t, htok, ?_, ?_⟩
    · rw [hfl]; exact atP_join hat (atP_one hen rfl) (by rw [T.flatL_len]; omega)
    · have := congrArg List.length hfl
      rw [T.flat_len, List.length_append, T.flatL_len] at this
      simp only [List.length_singleton] at this
      omega
theorem right_tree {e : List Pt} (h : refRightV e = true) : e = [] ∨ ∃ t : T, t.ok = true ∧ e = T.flat 0 t := by
  unfold refRightV at h
  simp only [Bool.and_eq_true, Bool.or_eq_true, decide_eq_true_eq] at h
  rcases h.2 with h2 | h2
  · exact .inl (List.length_eq_zero_iff.1 h2)
  · by_cases h0 : e.length = 0
    · exact .inl (List.length_eq_zero_iff.1 h0)
    · right
      obtain ⟨t, hok, hat, hsz⟩ := whole_tree h.1 e.length (e.length - 1) (by omega) (by omega)
      rw [h2] at hat hsz
      refine ⟨t, hok, ?_⟩
      obtain ⟨u, v, he, hu⟩ := hat
      have hu0 : u = [] := List.length_eq_zero_iff.1 hu
      have hlv : v = [] := by
        have := congrArg List.length he
        simp only [List.length_append, T.flat_len] at this
        rw [hu0] at this
        exact List.length_eq_zero_iff.1 (by simp only [List.length_nil] at this; omega)
      rw [hu0, hlv] at he
      simpa using he
end Go.Proofs.YtmcchhmgchgaaaaDoor

namespace Go.Proofs.YtmcchhmgchgaaaaDoor
set_option linter.unusedSimpArgs false
set_option linter.unusedVariables false
set_option maxRecDepth 100000
set_option maxHeartbeats 1000000
open Go.RowKit

theorem whole_h (e : List Pt) (he : PtB e) : ∀ f en, en < f → en < e.length → HPure Tryd.prog 45 [ptsV e, intV en] (intV (wholeN e f en))
  | 0, en, h, _ => absurd h (Nat.not_lt_zero _)
  | f + 1, en, h, hen => by
    have ih := fun k (hk : k < en) => whole_h e he f k (by omega) (by omega)
    have hkb := he.2 en hen
    have hel := he.1
    have hR := whole_le e f
    refine hpure_of Tryd.func45 rfl (by kernel_rfl) _ _ _ rfl 40 rfl rfl (fun w F => ?_)
    refine srg fun N h1 => ?_
    refine sta rfl rfl rfl ?_
    refine snl h1 ?_
    refine srg fun N h2 => ?_
    refine stm rfl rfl rfl ?_
    refine stm rfl rfl rfl ?_
    refine st0 (hop_ia_sl el_41 rfl rfl (by omega) (by omega) (nb rfl)) rfl rfl ?_
    refine st0 (HOp.val (v' := ptH (e.getD en default)) (hop_load_fp ty_46 rfl (nb rfl) (fun h => (by cases h))) (rfl)) rfl rfl ?_
    refine hm_1 5 (hop_alloc (id := 5) (sz := 5) zc_46 rfl rfl (nb rfl) (nb rfl)) rfl rfl pre0 rfl rfl (c' := 1) rfl ?_
    refine hm_s1 (hol_storeW ty_46 rfl rfl rfl rfl) rfl rfl (pre1 rfl) (c' := 2) rfl ?_
    refine snl h2 ?_
    refine srg fun N h3 => ?_
    refine stm rfl rfl rfl ?_
    refine sta rfl rfl rfl ?_
    refine snl h3 ?_
    refine hw_seq (fun Nh4 h4 => ?_)
    refine srg fun N h5 => ?_
    refine st0 (hop_fa fd_46_4 rfl) rfl rfl ?_
    refine st1 (HOp.val (v' := kidsV (e.getD en default).kids) (hol_load ty_44 rfl (nb rfl) (nb rfl) (fun h => (by rfl))) (rfl)) rfl rfl rfl ?_
    refine st0 (hop_len_sl (T := 44) rfl (elOf_spec el_44).1 rfl) rfl rfl ?_
    refine st0 (hop_subi rfl rfl rfl (by omega) (by omega)) rfl rfl ?_
    refine sta rfl rfl rfl ?_
    refine snl h5 ?_
    refine hw_block ?_
    refine hw_loopc (α := Nat × Nat) (fun x c => ⟨40, [(0, .v (ptsV e)), (1, .v (intV en)), (5, .v (.pt 5 0 0 0)), (6, .v (intV x.2)), (7, .v (intV ((x.1 : Int) - 1)))], [(5, ⟨0, 1, 5, 46, 0, fun _ => ptF (e.getD en default)⟩)], c⟩) (fun x => x.1 ≤ (e.getD en default).kids.length ∧ x.2 ≤ en ∧ wloop (wholeN e f) (e.getD en default).kids x.1 x.2 = wholeN e (f + 1) en) (fun x => x.1) (((e.getD en default).kids.length, en)) (by exact ⟨Nat.le_refl _, Nat.le_refl _, rfl⟩) (hsub_of rfl (Nat.le_refl _) (TmSub.cons rfl (Sb.refl _) (TmSub.cons rfl (Sb.refl _) (TmSub.cons rfl (Sb.refl _) (TmSub.cons rfl (Sb.refl _) (TmSub.cons rfl (Sb.refl _) TmSub.nil))))) (HpSub.cons rfl (by exact osub5 (.refl _) (.refl _) (.refl _) (.refl _) (.refl _)) HpSub.nil)) (fun x c hx NhL6 hL6 => ?_)
    revert hx hL6; obtain ⟨n, at_⟩ := x; intro hx hL6; dsimp only at hx hL6 ⊢
    obtain ⟨hn, ha, hW⟩ := hx
    refine hw_seq (fun Nh7 h7 => ?_)
    refine srg fun N h8 => ?_
    refine stm rfl rfl rfl ?_
    refine st0 (hop_geq rfl rfl) rfl rfl ?_
    refine snl h8 ?_
    refine hw_cond _ rfl (fun hc0 => ?_) (fun hc0 => ?_)
    · have hr0 := hc0; (try simp only [hcs, Int.reduceToNat] at hc0)
      obtain ⟨m, rfl⟩ : ∃ m, n = m + 1 := ⟨n - 1, by omega⟩
      refine hw_skip ?_
      refine h7 _ ?_
      refine hw_seq (fun Nh9 h9 => ?_)
      refine hw_block ?_
      refine hw_seq (fun Nh10 h10 => ?_)
      refine srg fun N h11 => ?_
      refine stm rfl rfl rfl ?_
      refine st0 (hop_lss rfl rfl) rfl rfl ?_
      refine stm rfl rfl rfl ?_
      refine stg 23 (fun hb => hop_fa fd_46_4 rfl) rfl rfl rfl rfl rfl ?_
      refine hq_g 25 2 23 false _ (fun hb => HOp.val (v' := kidsV (e.getD en default).kids) (hol_load ty_44 rfl (nb rfl) (nb rfl) (fun h => (by rfl))) (rfl)) rfl rfl rfl rfl (pre1 rfl) rfl rfl rfl ?_
      refine stg 23 (fun hb => hop_move rfl) rfl rfl rfl rfl rfl ?_
      refine stg 23 (fun hb => hop_ia_sl el_44 rfl rfl (by (simp at hb; first | omega | (dsimp only; omega) | (simp <;> omega))) (by (simp at hb; first | omega | (dsimp only; omega) | (simp <;> omega))) (nb rfl)) rfl rfl rfl rfl rfl ?_
      refine stg 23 (fun hb => HOp.val (v' := intV ((e.getD en default).kids.getD m 0)) (hop_load_fp ty_3 rfl (nb rfl) (fun h => (by rfl))) (by exact kids_at (i := m) (by omega) rfl)) rfl rfl rfl rfl rfl ?_
      refine stg 23 (fun hb => hop_move rfl) rfl rfl rfl rfl rfl ?_
      refine stg 23 (fun hb => hop_subi rfl rfl rfl (by (simp at hb; first | omega | (dsimp only; omega) | (simp <;> omega))) (by (simp at hb; first | omega | (dsimp only; omega) | (simp <;> omega)))) rfl rfl rfl rfl rfl ?_
      refine stg 23 (fun hb => hop_neq rfl rfl) rfl rfl rfl rfl rfl ?_
      refine hq_p 32 (hstep_or _ _ rfl rfl rfl) rfl rfl rfl ?_
      refine hseq_nilU (by rfl) (by simp only [dropUn, slots]; exact rfl) ?_
      refine h11 _ ?_
      refine hw_cond _ rfl (fun hc1 => ?_) (fun hc1 => ?_)
      · have hr1 := hc1; (try simp only [hcs, Int.reduceToNat] at hc1)
        have hc : at_ < 1 ∨ (e.getD en default).kids.getD m 0 ≠ (at_ : Int) - 1 := (by have h := hr1; simp at h; omega)
        refine srg fun N h12 => ?_
        refine sta rfl rfl rfl ?_
        refine snl h12 ?_
        refine hw_ret ?_
        refine hq_then_ret ?_
        refine hq_block_ret ?_
        refine hq_then_ret ?_
        refine hq_then_ret ?_
        refine hq_block_ret ?_
        refine hq_then_ret ?_
        refine hq_ret1 rfl (rval_tmp rfl) [] rfl pre0 ?_
        rw [← hW, wloop, if_pos hc]; exact .imm _
      have hr1 := hc1; (try simp only [hcs, Int.reduceToNat] at hc1)
      have hc : ¬ (at_ < 1 ∨ (e.getD en default).kids.getD m 0 ≠ (at_ : Int) - 1) := (by have h := hr1; simp at h; omega)
      refine hw_skip ?_
      refine h10 _ ?_
      refine srg fun N h13 => ?_
      refine stm rfl rfl rfl ?_
      refine stm rfl rfl rfl ?_
      refine st0 (HOp.val (v' := intV ((at_ - 1 : Nat) : Int)) (hop_subi rfl rfl rfl (by omega) (by omega)) (congrArg intV (show (at_ : Int) - 1 = ((at_ - 1 : Nat) : Int) by omega))) rfl rfl ?_
      refine st0 (hop_call0 (xs := [_, _]) (ih (at_ - 1) (by omega)) ⟨rfl, ⟨rfl, trivial⟩⟩ ⟨(Fz.eq rfl), ⟨(Fz.eq rfl), trivial⟩⟩) rfl rfl ?_
      refine sta rfl rfl rfl ?_
      refine snl h13 ?_
      refine srg fun N h14 => ?_
      refine stm rfl rfl rfl ?_
      refine st0 (hop_lss rfl rfl) rfl rfl ?_
      refine snl h14 ?_
      refine hw_cond _ rfl (fun hc2 => ?_) (fun hc2 => ?_)
      · have hr2 := hc2; (try simp only [hcs, Int.reduceToNat] at hc2)
        refine srg fun N h15 => ?_
        refine sta rfl rfl rfl ?_
        refine snl h15 ?_
        refine hw_ret ?_
        refine hq_block_ret ?_
        refine hq_then_ret ?_
        refine hq_then_ret ?_
        refine hq_block_ret ?_
        refine hq_then_ret ?_
        refine hq_ret1 rfl (rval_tmp rfl) [] rfl pre0 ?_
        rw [← hW, wloop, if_neg hc, if_pos hc2]; exact .imm _
      have hr2 := hc2; (try simp only [hcs, Int.reduceToNat] at hc2)
      have hW2 := hW; rw [wloop, if_neg hc, if_neg (show ¬ wholeN e f (at_ - 1) < 0 by omega)] at hW2
      refine hw_skip ?_
      refine hq_block ?_
      refine h9 _ ?_
      refine hw_region ?_
      refine stm rfl rfl rfl ?_
      refine st0 (hop_subi rfl rfl rfl (by omega) (by omega)) rfl rfl ?_
      refine sta rfl rfl rfl ?_
      refine hseq_nil ?_
      exact hL6 ((m, (wholeN e f (at_ - 1)).toNat)) _ _ (by (try dsimp only); exact ⟨by omega, by have := hR (at_ - 1); omega, by rw [← hW2]⟩) (by (try dsimp only); omega) (hsub_of rfl (Nat.le_refl _) (TmSub.cons rfl (Sb.refl _) (TmSub.cons rfl (Sb.refl _) (TmSub.cons rfl (Sb.refl _) (TmSub.cons rfl (by dsimp only; exact sb_int (by omega)) (TmSub.cons rfl (by dsimp only; exact sb_int (by omega)) TmSub.nil))))) (HpSub.cons rfl (OSub.refl _) HpSub.nil))
    have hr0 := hc0; (try simp only [hcs, Int.reduceToNat] at hc0)
    refine hw_exit ?_
    refine hq_then_exit ?_
    refine hq_then_exit ?_
    refine hq_block_here ?_
    refine h4 _ ?_
    refine srg fun N h16 => ?_
    refine stm rfl rfl rfl ?_
    refine sta rfl rfl rfl ?_
    refine snl h16 ?_
    refine hw_ret ?_
    refine hq_ret1 rfl (rval_tmp rfl) [] rfl pre0 ?_
    obtain rfl : n = 0 := (by omega); rw [← hW]; exact .imm _
/-- Parts that are few. -/
def fewV (e : List Pt) : Bool := decide (e.length ≤ 60) && (List.range e.length).all fun i => decide ((e.getD i default).kids.length ≤ 60) && decide ((e.getD i default).name.length ≤ 100)
theorem few_at {e : List Pt} (h : fewV e = true) : e.length ≤ 60 ∧ ∀ i, i < e.length → (e.getD i default).kids.length ≤ 60 ∧ (e.getD i default).name.length ≤ 100 := by
  unfold fewV at h
  simp only [Bool.and_eq_true, decide_eq_true_eq, List.all_eq_true, List.mem_range] at h
  exact h
theorem few_no {e : List Pt} {i : Nat} (hi : i < e.length) (h : 60 < (e.getD i default).kids.length ∨ 100 < (e.getD i default).name.length) : fewV e = false := by
  cases hf : fewV e with
  | false => rfl
  | true => have := (few_at hf).2 i hi; omega
theorem few_yes {e : List Pt} {i : Nat} (hi : i = e.length ∨ 61 ≤ i) (hle : i ≤ e.length) (h : ∀ j, j < i → (e.getD j default).kids.length ≤ 60 ∧ (e.getD j default).name.length ≤ 100) : fewV e = decide (e.length ≤ 60) := by
  unfold fewV
  by_cases hl : e.length ≤ 60
  · rw [decide_eq_true hl, Bool.true_and, List.all_eq_true]
    intro j hj
    have := h j (by rw [List.mem_range] at hj; omega)
    simp only [Bool.and_eq_true, decide_eq_true_eq]; exact this
  · rw [decide_eq_false hl]; rfl
theorem few_h (e : List Pt) : HPure Tryd.prog 22 [ptsV e] (boolV (fewV e)) := by
  refine hpure_of Tryd.func22 rfl (by kernel_rfl) _ _ _ rfl 33 rfl rfl (fun w F => ?_)
  refine srg fun N h1 => ?_
  refine sta rfl rfl rfl ?_
  refine snl h1 ?_
  refine hw_seq (fun Nh2 h2 => ?_)
  refine srg fun N h3 => ?_
  refine sta rfl rfl rfl ?_
  refine snl h3 ?_
  refine hw_block ?_
  refine hw_loopc (α := Nat) (fun x c => ⟨33, [(0, .v (ptsV e)), (3, .v (intV x))], [], c⟩) (fun x => x ≤ e.length ∧ x ≤ 61 ∧ ∀ j, j < x → (e.getD j default).kids.length ≤ 60 ∧ (e.getD j default).name.length ≤ 100) (fun x => e.length - x) (0) (by exact ⟨Nat.zero_le _, Nat.zero_le _, fun j hj => absurd hj (Nat.not_lt_zero _)⟩) (hsub_of rfl (Nat.le_refl _) (TmSub.cons rfl (Sb.refl _) (TmSub.cons rfl (Sb.refl _) TmSub.nil)) HpSub.nil) (fun i c hx NhL4 hL4 => ?_)
  (try dsimp only at hx hL4 ⊢)
  obtain ⟨hi, hi6, hE⟩ := hx
  refine hw_seq (fun Nh5 h5 => ?_)
  refine srg fun N h6 => ?_
  refine stm rfl rfl rfl ?_
  refine stm rfl rfl rfl ?_
  refine st0 (hop_len_sl (T := 41) rfl (elOf_spec el_41).1 rfl) rfl rfl ?_
  refine st0 (hop_lss rfl rfl) rfl rfl ?_
  refine stm rfl rfl rfl ?_
  refine stg 8 (fun hb => hop_move rfl) rfl rfl rfl rfl rfl ?_
  refine stg 8 (fun hb => hop_lss rfl rfl) rfl rfl rfl rfl rfl ?_
  refine hq_p 11 (hstep_and _ _ rfl rfl rfl) rfl rfl rfl ?_
  refine hseq_nilU (by rfl) (by simp only [dropUn, slots]; exact rfl) ?_
  refine h6 _ ?_
  refine hw_cond _ rfl (fun hc0 => ?_) (fun hc0 => ?_)
  · have hr0 := hc0; (try simp only [hcs, Int.reduceToNat] at hc0)
    have hil : i < e.length := (by have h := hr0; simp at h; omega); have hi61 : i < 61 := (by have h := hr0; simp at h; omega)
    refine hw_skip ?_
    refine h5 _ ?_
    refine hw_seq (fun Nh7 h7 => ?_)
    refine hw_block ?_
    refine srg fun N h8 => ?_
    refine stm rfl rfl rfl ?_
    refine stm rfl rfl rfl ?_
    refine st0 (hop_ia_sl el_41 rfl rfl (by omega) (by omega) (nb rfl)) rfl rfl ?_
    refine st0 (hop_fa_fp fd_46_4 rfl (nb rfl)) rfl rfl ?_
    refine st0 (HOp.val (v' := kidsV (e.getD i default).kids) (hop_load_fp ty_44 rfl (nb rfl) (fun h => (by rfl))) (rfl)) rfl rfl ?_
    refine st0 (hop_len_sl (T := 44) rfl (elOf_spec el_44).1 rfl) rfl rfl ?_
    refine st0 (hop_gtr rfl rfl) rfl rfl ?_
    refine stm rfl rfl rfl ?_
    refine stg 21 (fun hb => hop_move rfl) rfl rfl rfl rfl rfl ?_
    refine stg 21 (fun hb => hop_move rfl) rfl rfl rfl rfl rfl ?_
    refine stg 21 (fun hb => hop_ia_sl el_41 rfl rfl (by (simp at hb; first | omega | (dsimp only; omega) | (simp <;> omega))) (by (simp at hb; first | omega | (dsimp only; omega) | (simp <;> omega))) (nb rfl)) rfl rfl rfl rfl rfl ?_
    refine stg 21 (fun hb => hop_fa_fp fd_46_3 rfl (nb rfl)) rfl rfl rfl rfl rfl ?_
    refine stg 21 (fun hb => HOp.val (v' := strV (e.getD i default).name) (hop_load_fp ty_9 rfl (nb rfl) (fun h => (by rfl))) (rfl)) rfl rfl rfl rfl rfl ?_
    refine stg 21 (fun hb => hop_len_strl (T := 9) rfl (by kernel_rfl) rfl) rfl rfl rfl rfl rfl ?_
    refine stg 21 (fun hb => hop_gtr rfl rfl) rfl rfl rfl rfl rfl ?_
    refine hq_p 29 (hstep_or _ _ rfl rfl rfl) rfl rfl rfl ?_
    refine hseq_nilU (by rfl) (by simp only [dropUn, slots]; exact rfl) ?_
    refine h8 _ ?_
    refine hw_cond _ rfl (fun hc1 => ?_) (fun hc1 => ?_)
    · have hr1 := hc1; (try simp only [hcs, Int.reduceToNat] at hc1)
      have hno : 60 < (e.getD i default).kids.length ∨ 100 < (e.getD i default).name.length := (by have h := hr1; simp at h; omega)
      refine srg fun N h9 => ?_
      refine sta rfl rfl rfl ?_
      refine snl h9 ?_
      refine hw_ret ?_
      refine hq_block_ret ?_
      refine hq_then_ret ?_
      refine hq_then_ret ?_
      refine hq_block_ret ?_
      refine hq_then_ret ?_
      refine hq_ret1 rfl (rval_tmp rfl) [] rfl pre0 ?_
      rw [few_no hil hno]; exact .imm _
    have hr1 := hc1; (try simp only [hcs, Int.reduceToNat] at hc1)
    have hok : (e.getD i default).kids.length ≤ 60 ∧ (e.getD i default).name.length ≤ 100 := (by have h := hr1; simp at h; omega)
    refine hw_skip ?_
    refine hq_block ?_
    refine h7 _ ?_
    refine hw_region ?_
    refine stm rfl rfl rfl ?_
    refine st0 (hop_addi rfl rfl rfl (by omega) (by omega)) rfl rfl ?_
    refine sta rfl rfl rfl ?_
    refine hseq_nil ?_
    exact hL4 (i + 1) _ _ (by (try dsimp only); exact ⟨by omega, by omega, fun j hj => by by_cases e' : j = i; (· subst e'; exact hok); exact hE j (by omega)⟩) (by (try dsimp only); omega) (hsub_of rfl (Nat.le_refl _) (TmSub.cons rfl (Sb.refl _) (TmSub.cons rfl (Sb.refl _) TmSub.nil)) HpSub.nil)
  have hr0 := hc0; (try simp only [hcs, Int.reduceToNat] at hc0)
  have hex : i = e.length ∨ 61 ≤ i := (by have h := hr0; simp at h; omega)
  refine hw_exit ?_
  refine hq_then_exit ?_
  refine hq_then_exit ?_
  refine hq_block_here ?_
  refine h2 _ ?_
  refine srg fun N h10 => ?_
  refine stm rfl rfl rfl ?_
  refine st0 (hop_len_sl (T := 41) rfl (elOf_spec el_41).1 rfl) rfl rfl ?_
  refine st0 (hop_leq rfl rfl) rfl rfl ?_
  refine sta rfl rfl rfl ?_
  refine snl h10 ?_
  refine hw_ret ?_
  refine hq_ret1 rfl (rval_tmp rfl) [] rfl pre0 ?_
  rw [few_yes hex hi hE]; exact fz_bool (decide_eq_decide.2 (by omega))
end Go.Proofs.YtmcchhmgchgaaaaDoor

namespace Go.Proofs.YtmcchhmgchgaaaaDoor
set_option linter.unusedSimpArgs false
set_option linter.unusedVariables false
set_option maxRecDepth 100000
set_option maxHeartbeats 1000000
open Go.RowKit

theorem name_ref (s : List UInt8) (hs : s.length ≤ 1000000) : ∃ r : List Sg × Int × Int, HPure Tryd.prog 44 [strV s] (lexH r) ∧ r.1.length ≤ 200 ∧ nameV s = (decide (r.2.2 = 0) && decide (r.1.length = 1) && decide ((r.1.getD 0 default).kind = 1) && decide ((r.1.getD 0 default).name = s)) := by
  refine ⟨lexO (lexV s), refLex_h s hs, lexO_len s, ?_⟩
  unfold nameV
  cases hv : lexV s with
  | error e =>
    have h := lexV_err hv
    have h2 : ¬ (e.2 = 0) := h
    show false = (decide (e.2 = 0) && _ && _ && _)
    rw [decide_eq_false h2]; rfl
  | ok l =>
    match l with
    | [] => rfl
    | [x] => rfl
    | x :: y :: l => simp [lexO]
theorem cnt_eq (lo hi : Int) : (decide (1 ≤ hi) && decide (hi ≤ 20) && decide (lo ≤ hi)) = (decide ((if 1 > lo then 1 else lo) ≤ hi) && decide (hi ≤ 20)) := by
  rw [Bool.eq_iff_iff]
  simp only [Bool.and_eq_true, decide_eq_true_eq]
  split <;> constructor <;> intro h <;> omega
theorem ref_big {x : Pt} {r : List Sg × Int × Int} (hN : nameV x.name = (decide (r.2.2 = 0) && decide (r.1.length = 1) && decide ((r.1.getD 0 default).kind = 1) && decide ((r.1.getD 0 default).name = x.name))) :
    (x.kind == 1 && (x.kids.length : Int) == 0 && (x.low == 0 && x.high == 0) && (r.2.2 == 0 && (r.1.length : Int) == 1 && (r.1.getD 0 default).kind == 1 && decide ((r.1.getD 0 default).name = x.name)) ||
      (x.kind == 2 || x.kind == 3) && decide (2 ≤ (x.kids.length : Int)) && (x.low == 0 && x.high == 0) && decide (x.name = []) ||
      x.kind == 4 && (x.kids.length : Int) == 1 && (decide (0 ≤ x.low) && decide (x.low ≤ 20) && (x.high == -1 || decide (1 ≤ x.high) && decide (x.high ≤ 20) && decide (x.low ≤ x.high))) && decide (x.name = [])) = aloneV x := by
  have h2l : decide (2 ≤ (x.kids.length : Int)) = decide (1 < x.kids.length) := decide_eq_decide.2 (by omega)
  simp only [beq_d, int_0, int_1]
  rw [← hN, h2l, cnt_eq]
  unfold aloneV
  by_cases h1 : x.kind = 1
  · rw [if_pos h1, decide_eq_true h1, decide_eq_false (show ¬ x.kind = 2 by omega), decide_eq_false (show ¬ x.kind = 3 by omega), decide_eq_false (show ¬ x.kind = 4 by omega)]
    simp [Bool.and_assoc]
  · rw [if_neg h1, decide_eq_false h1]
    by_cases h2 : x.kind = 2 ∨ x.kind = 3
    · rw [if_pos h2, decide_eq_false (show ¬ x.kind = 4 by omega)]
      have : (decide (x.kind = 2) || decide (x.kind = 3)) = true := by simpa using h2
      rw [this]
      simp [Bool.and_assoc]
    · rw [if_neg h2]
      have : (decide (x.kind = 2) || decide (x.kind = 3)) = false := by
        rw [Bool.or_eq_false_iff]; exact ⟨decide_eq_false (by omega), decide_eq_false (by omega)⟩
      rw [this]
      by_cases h4 : x.kind = 4
      · rw [if_pos h4, decide_eq_true h4]; simp [Bool.and_assoc]
      · rw [if_neg h4, decide_eq_false h4]; simp
theorem fine_no {e : List Pt} {i : Nat} (hi : i < e.length) (h : aloneV (e.getD i default) = false) : refRightV e = false := by
  have : fineV e = false := by
    cases hf : fineV e with
    | false => rfl
    | true =>
      have := List.all_eq_true.1 hf _ (getD_mem' hi)
      rw [h] at this; cases this
  unfold refRightV; rw [this]; rfl
theorem fine_yes {e : List Pt} (h : ∀ j, j < e.length → aloneV (e.getD j default) = true) : fineV e = true := by
  rw [fineV, List.all_eq_true]
  intro x hx
  obtain ⟨i, hi, rfl⟩ := List.mem_iff_getElem.1 hx
  have := h i hi
  rwa [List.getD_eq_getElem?_getD, List.getElem?_eq_getElem hi] at this
theorem len_sub {n : Nat} (h : ((n : Int) == 0) = false) : (n : Int) - 1 = ((n - 1 : Nat) : Int) := by simp at h; omega
theorem len_lt {n : Nat} (h : ((n : Int) == 0) = false) : n - 1 < n := by simp at h; omega
theorem refRight_h (e : List Pt) (he : PtB e) : HPure Tryd.prog 24 [ptsV e] (boolV (refRightV e)) := by
  have hel := he.1
  refine hpure_of Tryd.func24 rfl (by kernel_rfl) _ _ _ rfl 161 rfl rfl (fun w F => ?_)
  refine srg fun N h1 => ?_
  refine sta rfl rfl rfl ?_
  refine snl h1 ?_
  refine hw_seq (fun Nh2 h2 => ?_)
  refine srg fun N h3 => ?_
  refine sta rfl rfl rfl ?_
  refine snl h3 ?_
  refine hw_block ?_
  refine hw_loopc (α := Nat) (fun x c => ⟨161, [(0, .v (ptsV e)), (3, .v (intV x))], [], c⟩) (fun x => x ≤ e.length ∧ ∀ j, j < x → aloneV (e.getD j default) = true) (fun x => e.length - x) (0) (by exact ⟨Nat.zero_le _, fun j hj => absurd hj (Nat.not_lt_zero _)⟩) (hsub_of rfl (Nat.le_refl _) (TmSub.cons rfl (Sb.refl _) (TmSub.cons rfl (Sb.refl _) TmSub.nil)) HpSub.nil) (fun i c hx NhL4 hL4 => ?_)
  (try dsimp only at hx hL4 ⊢)
  obtain ⟨hi, hE⟩ := hx
  refine hw_seq (fun Nh5 h5 => ?_)
  refine srg fun N h6 => ?_
  refine stm rfl rfl rfl ?_
  refine stm rfl rfl rfl ?_
  refine st0 (hop_len_sl (T := 41) rfl (elOf_spec el_41).1 rfl) rfl rfl ?_
  refine st0 (hop_lss rfl rfl) rfl rfl ?_
  refine snl h6 ?_
  refine hw_cond _ rfl (fun hc0 => ?_) (fun hc0 => ?_)
  · have hr0 := hc0; (try simp only [hcs, Int.reduceToNat] at hc0)
    have hil : i < e.length := (by omega); have hkb := he.2 i hil; obtain ⟨r, hlx, hrl, hN⟩ := name_ref (e.getD i default).name (by omega)
    refine hw_skip ?_
    refine h5 _ ?_
    refine hw_seq (fun Nh7 h7 => ?_)
    refine hw_block ?_
    refine srg fun N h8 => ?_
    refine stm rfl rfl rfl ?_
    refine stm rfl rfl rfl ?_
    refine st0 (hop_ia_sl el_41 rfl rfl (by omega) (by omega) (nb rfl)) rfl rfl ?_
    refine st0 (HOp.val (v' := ptH (e.getD i default)) (hop_load_fp ty_46 rfl (nb rfl) (fun h => (by cases h))) (rfl)) rfl rfl ?_
    refine hm_1 4 (hop_alloc (id := 4) (sz := 5) zc_46 rfl rfl (nb rfl) (nb rfl)) rfl rfl pre0 rfl rfl (c' := c + 1) rfl ?_
    refine hm_s1 (hol_storeW ty_46 rfl rfl rfl rfl) rfl rfl (pre1 rfl) (c' := c + 2) rfl ?_
    refine snl h8 ?_
    refine srg fun N h9 => ?_
    refine st0 (hop_fa fd_46_4 rfl) rfl rfl ?_
    refine st1 (HOp.val (v' := kidsV (e.getD i default).kids) (hol_load ty_44 rfl (nb rfl) (nb rfl) (fun h => (by rfl))) (rfl)) rfl rfl rfl ?_
    refine st0 (hop_len_sl (T := 44) rfl (elOf_spec el_44).1 rfl) rfl rfl ?_
    refine sta rfl rfl rfl ?_
    refine snl h9 ?_
    refine srg fun N h10 => ?_
    refine st0 (hop_fa fd_46_3 rfl) rfl rfl ?_
    refine st1 (HOp.val (v' := strV (e.getD i default).name) (hol_load ty_9 rfl (nb rfl) (nb rfl) (fun h => (by rfl))) (rfl)) rfl rfl rfl ?_
    refine st0 (hop_call0 (xs := [_]) (hlx) ⟨rfl, trivial⟩ ⟨(Fz.eq rfl), trivial⟩) rfl rfl ?_
    refine stm rfl rfl rfl ?_
    refine st0 (hop_extract rfl rfl) rfl rfl ?_
    refine st0 (hop_extract rfl rfl) rfl rfl ?_
    refine st0 (hop_extract rfl rfl) rfl rfl ?_
    refine sta rfl rfl rfl ?_
    refine sta rfl rfl rfl ?_
    refine sta rfl rfl rfl ?_
    refine snl h10 ?_
    refine hw_seq (fun Nh11 h11 => ?_)
    refine hd_start ?_
    refine hd_q 33 (hop_move rfl) rfl rfl pre0 rfl rfl (k' := 1) rfl ?_
    refine hd_q 34 (hop_eql rfl rfl) rfl rfl pre0 rfl rfl (k' := 2) rfl ?_
    refine hd_q 35 (hop_move rfl) rfl rfl pre0 rfl rfl (k' := 3) rfl ?_
    refine hd_g 36 2 35 true _ (fun hb => hop_move rfl) rfl rfl rfl rfl pre0 rfl rfl rfl (k' := 4) rfl ?_
    refine hd_g 37 2 35 true _ (fun hb => hop_len_sl (T := 76) rfl (elOf_spec el_76).1 rfl) rfl rfl rfl rfl pre0 rfl rfl rfl (k' := 5) rfl ?_
    refine hd_g 38 2 35 true _ (fun hb => hop_eql rfl rfl) rfl rfl rfl rfl pre0 rfl rfl rfl (k' := 6) rfl ?_
    refine hd_p 39 (hstep_and _ _ rfl rfl rfl) rfl rfl rfl (k' := 7) rfl ?_
    refine hd_q 40 (hop_move rfl) rfl rfl pre0 rfl rfl (k' := 8) rfl ?_
    refine hd_g 41 7 40 true _ (fun hb => hop_move rfl) rfl rfl rfl rfl pre0 rfl rfl rfl (k' := 9) rfl ?_
    refine hd_g 42 7 40 true _ (fun hb => hop_ia_sl el_76 rfl rfl (by (simp at hb; first | omega | (dsimp only; omega) | (simp <;> omega))) (by (simp at hb; first | omega | (dsimp only; omega) | (simp <;> omega))) (nb rfl)) rfl rfl rfl rfl pre0 rfl rfl rfl (k' := 10) rfl ?_
    refine hd_g 43 7 40 true _ (fun hb => hop_fa_fp fd_80_0 rfl (nb rfl)) rfl rfl rfl rfl pre0 rfl rfl rfl (k' := 11) rfl ?_
    refine hd_g 44 7 40 true _ (fun hb => HOp.val (v' := intV (r.1.getD 0 default).kind) (hop_load_fp ty_3 rfl (nb rfl) (fun h => (by rfl))) (rfl)) rfl rfl rfl rfl pre0 rfl rfl rfl (k' := 12) rfl ?_
    refine hd_g 45 7 40 true _ (fun hb => hop_eql rfl rfl) rfl rfl rfl rfl pre0 rfl rfl rfl (k' := 13) rfl ?_
    refine hd_p 46 (hstep_and _ _ rfl rfl rfl) rfl rfl rfl (k' := 14) rfl ?_
    refine hd_q 47 (hop_move rfl) rfl rfl pre0 rfl rfl (k' := 15) rfl ?_
    refine hd_g 48 14 47 true _ (fun hb => hop_move rfl) rfl rfl rfl rfl pre0 rfl rfl rfl (k' := 16) rfl ?_
    refine hd_g 49 14 47 true _ (fun hb => hop_ia_sl el_76 rfl rfl (by (simp at hb; first | omega | (dsimp only; omega) | (simp <;> omega))) (by (simp at hb; first | omega | (dsimp only; omega) | (simp <;> omega))) (nb rfl)) rfl rfl rfl rfl pre0 rfl rfl rfl (k' := 17) rfl ?_
    refine hd_g 50 14 47 true _ (fun hb => hop_fa_fp fd_80_4 rfl (nb rfl)) rfl rfl rfl rfl pre0 rfl rfl rfl (k' := 18) rfl ?_
    refine hd_g 51 14 47 true _ (fun hb => HOp.val (v' := strV (r.1.getD 0 default).name) (hop_load_fp ty_9 rfl (nb rfl) (fun h => (by rfl))) (rfl)) rfl rfl rfl rfl pre0 rfl rfl rfl (k' := 19) rfl ?_
    refine hd_g 52 14 47 true _ (fun hb => hop_fa fd_46_3 rfl) rfl rfl rfl rfl pre0 rfl rfl rfl (k' := 20) rfl ?_
    refine hd_g 53 14 47 true _ (fun hb => HOp.val (v' := strV (e.getD i default).name) (hol_load ty_9 rfl (nb rfl) (nb rfl) (fun h => (by rfl))) (rfl)) rfl rfl rfl rfl (pre1 rfl) rfl rfl rfl (k' := 21) rfl ?_
    refine hd_g 54 14 47 true _ (fun hb => hop_seq_l rfl rfl) rfl rfl rfl rfl pre0 rfl rfl rfl (k' := 22) rfl ?_
    refine hd_p 55 (hstep_and _ _ rfl rfl rfl) rfl rfl rfl (k' := 23) rfl ?_
    refine hd_q 9 (hop_assign rfl) rfl rfl pre0 rfl rfl (k' := 24) rfl ?_
    refine hd_nil (by kernel_rfl) (by kernel_rfl) (c' := c + 26) rfl ?_
    refine h11 _ ?_
    refine srg fun N h12 => ?_
    refine st0 (hop_fa fd_46_1 rfl) rfl rfl ?_
    refine st1 (HOp.val (v' := intV (e.getD i default).low) (hol_load ty_3 rfl (nb rfl) (nb rfl) (fun h => (by rfl))) (rfl)) rfl rfl rfl ?_
    refine st0 (hop_eql rfl rfl) rfl rfl ?_
    refine stm rfl rfl rfl ?_
    refine stg 59 (fun hb => hop_fa fd_46_2 rfl) rfl rfl rfl rfl rfl ?_
    refine hq_g 61 3 59 true _ (fun hb => HOp.val (v' := intV (e.getD i default).high) (hol_load ty_3 rfl (nb rfl) (nb rfl) (fun h => (by rfl))) (rfl)) rfl rfl rfl rfl (pre1 rfl) rfl rfl rfl ?_
    refine stg 59 (fun hb => hop_eql rfl rfl) rfl rfl rfl rfl rfl ?_
    refine hq_p 63 (hstep_and _ _ rfl rfl rfl) rfl rfl rfl ?_
    refine sta rfl rfl rfl ?_
    refine hseq_nilU (by rfl) (by simp only [dropUn, slots]; exact rfl) ?_
    refine h12 _ ?_
    refine srg fun N h13 => ?_
    refine st0 (hop_fa fd_46_0 rfl) rfl rfl ?_
    refine st1 (HOp.val (v' := intV (e.getD i default).kind) (hol_load ty_3 rfl (nb rfl) (nb rfl) (fun h => (by rfl))) (rfl)) rfl rfl rfl ?_
    refine st0 (hop_eql rfl rfl) rfl rfl ?_
    refine stm rfl rfl rfl ?_
    refine stg 67 (fun hb => hop_move rfl) rfl rfl rfl rfl rfl ?_
    refine stg 67 (fun hb => hop_eql rfl rfl) rfl rfl rfl rfl rfl ?_
    refine hq_p 70 (hstep_and _ _ rfl rfl rfl) rfl rfl rfl ?_
    refine stm rfl rfl rfl ?_
    refine stg 71 (fun hb => hop_move rfl) rfl rfl rfl rfl rfl ?_
    refine hq_p 73 (hstep_and _ _ rfl rfl rfl) rfl rfl rfl ?_
    refine stm rfl rfl rfl ?_
    refine stg 74 (fun hb => hop_move rfl) rfl rfl rfl rfl rfl ?_
    refine hq_p 76 (hstep_and _ _ rfl rfl rfl) rfl rfl rfl ?_
    refine sta rfl rfl rfl ?_
    refine hseq_nilU (by rfl) (by simp only [dropUn, slots]; exact rfl) ?_
    refine h13 _ ?_
    refine srg fun N h14 => ?_
    refine stm rfl rfl rfl ?_
    refine stm rfl rfl rfl ?_
    refine stg 78 (fun hb => hop_fa fd_46_0 rfl) rfl rfl rfl rfl rfl ?_
    refine hq_g 80 1 78 false _ (fun hb => HOp.val (v' := intV (e.getD i default).kind) (hol_load ty_3 rfl (nb rfl) (nb rfl) (fun h => (by rfl))) (rfl)) rfl rfl rfl rfl (pre1 rfl) rfl rfl rfl ?_
    refine stg 78 (fun hb => hop_eql rfl rfl) rfl rfl rfl rfl rfl ?_
    refine stg 78 (fun hb => hop_move rfl) rfl rfl rfl rfl rfl ?_
    refine hq_g3 83 5 82 78 false false _ _ (fun hb hb2 => hop_fa fd_46_0 rfl) rfl rfl rfl rfl rfl pre0 rfl rfl rfl ?_
    refine hq_g3 84 5 82 78 false false _ _ (fun hb hb2 => HOp.val (v' := intV (e.getD i default).kind) (hol_load ty_3 rfl (nb rfl) (nb rfl) (fun h => (by rfl))) (rfl)) rfl rfl rfl rfl rfl (pre1 rfl) rfl rfl rfl ?_
    refine hq_g3 85 5 82 78 false false _ _ (fun hb hb2 => hop_eql rfl rfl) rfl rfl rfl rfl rfl pre0 rfl rfl rfl ?_
    refine hq_pg 86 (hstep_org (gi := 1) (j := 78) _ _ rfl rfl rfl rfl) rfl rfl rfl rfl ?_
    refine stg 78 (fun hb => hop_move rfl) rfl rfl rfl rfl rfl ?_
    refine hq_g3 88 10 87 78 false true _ _ (fun hb hb2 => hop_move rfl) rfl rfl rfl rfl rfl pre0 rfl rfl rfl ?_
    refine hq_g3 89 10 87 78 false true _ _ (fun hb hb2 => hop_geq rfl rfl) rfl rfl rfl rfl rfl pre0 rfl rfl rfl ?_
    refine hq_pg 90 (hstep_andg (gi := 1) (j := 78) _ _ rfl rfl rfl rfl) rfl rfl rfl rfl ?_
    refine stg 78 (fun hb => hop_move rfl) rfl rfl rfl rfl rfl ?_
    refine hq_g3 92 14 91 78 false true _ _ (fun hb hb2 => hop_move rfl) rfl rfl rfl rfl rfl pre0 rfl rfl rfl ?_
    refine hq_pg 93 (hstep_andg (gi := 1) (j := 78) _ _ rfl rfl rfl rfl) rfl rfl rfl rfl ?_
    refine stg 78 (fun hb => hop_move rfl) rfl rfl rfl rfl rfl ?_
    refine hq_g3 95 17 94 78 false true _ _ (fun hb hb2 => hop_fa fd_46_3 rfl) rfl rfl rfl rfl rfl pre0 rfl rfl rfl ?_
    refine hq_g3 96 17 94 78 false true _ _ (fun hb hb2 => HOp.val (v' := strV (e.getD i default).name) (hol_load ty_9 rfl (nb rfl) (nb rfl) (fun h => (by rfl))) (rfl)) rfl rfl rfl rfl rfl (pre1 rfl) rfl rfl rfl ?_
    refine hq_g3 97 17 94 78 false true _ _ (fun hb hb2 => hop_seq_l rfl rfl) rfl rfl rfl rfl rfl pre0 rfl rfl rfl ?_
    refine hq_pg 98 (hstep_andg (gi := 1) (j := 78) _ _ rfl rfl rfl rfl) rfl rfl rfl rfl ?_
    refine hq_p 99 (hstep_or _ _ rfl rfl rfl) rfl rfl rfl ?_
    refine sta rfl rfl rfl ?_
    refine hseq_nilU (by rfl) (by simp only [dropUn, slots]; exact rfl) ?_
    refine h14 _ ?_
    refine srg fun N h15 => ?_
    refine st0 (hop_fa fd_46_1 rfl) rfl rfl ?_
    refine st1 (HOp.val (v' := intV (e.getD i default).low) (hol_load ty_3 rfl (nb rfl) (nb rfl) (fun h => (by rfl))) (rfl)) rfl rfl rfl ?_
    refine st0 (hop_geq rfl rfl) rfl rfl ?_
    refine stm rfl rfl rfl ?_
    refine stg 103 (fun hb => hop_fa fd_46_1 rfl) rfl rfl rfl rfl rfl ?_
    refine hq_g 105 3 103 true _ (fun hb => HOp.val (v' := intV (e.getD i default).low) (hol_load ty_3 rfl (nb rfl) (nb rfl) (fun h => (by rfl))) (rfl)) rfl rfl rfl rfl (pre1 rfl) rfl rfl rfl ?_
    refine stg 103 (fun hb => hop_leq rfl rfl) rfl rfl rfl rfl rfl ?_
    refine hq_p 107 (hstep_and _ _ rfl rfl rfl) rfl rfl rfl ?_
    refine stm rfl rfl rfl ?_
    refine stg 108 (fun hb => hop_fa fd_46_2 rfl) rfl rfl rfl rfl rfl ?_
    refine hq_g 110 8 108 true _ (fun hb => HOp.val (v' := intV (e.getD i default).high) (hol_load ty_3 rfl (nb rfl) (nb rfl) (fun h => (by rfl))) (rfl)) rfl rfl rfl rfl (pre1 rfl) rfl rfl rfl ?_
    refine stg 108 (fun hb => hop_eql rfl rfl) rfl rfl rfl rfl rfl ?_
    refine stg 108 (fun hb => hop_move rfl) rfl rfl rfl rfl rfl ?_
    refine hq_g3 113 12 112 108 true false _ _ (fun hb hb2 => hop_fa fd_46_2 rfl) rfl rfl rfl rfl rfl pre0 rfl rfl rfl ?_
    refine hq_g3 114 12 112 108 true false _ _ (fun hb hb2 => HOp.val (v' := intV (e.getD i default).high) (hol_load ty_3 rfl (nb rfl) (nb rfl) (fun h => (by rfl))) (rfl)) rfl rfl rfl rfl rfl (pre1 rfl) rfl rfl rfl ?_
    refine hq_g3 115 12 112 108 true false _ _ (fun hb hb2 => hop_geq rfl rfl) rfl rfl rfl rfl rfl pre0 rfl rfl rfl ?_
    refine hq_g3 116 12 112 108 true false _ _ (fun hb hb2 => hop_move rfl) rfl rfl rfl rfl rfl pre0 rfl rfl rfl ?_
    refine sth 116 (fun hb => hop_fa fd_46_2 rfl) rfl rfl rfl rfl rfl ?_
    refine hq_g2 118 16 116 _ _ true _ (fun hb => HOp.val (v' := intV (e.getD i default).high) (hol_load ty_3 rfl (nb rfl) (nb rfl) (fun h => (by rfl))) (rfl)) rfl rfl rfl rfl (pre1 rfl) rfl rfl rfl ?_
    refine sth 116 (fun hb => hop_leq rfl rfl) rfl rfl rfl rfl rfl ?_
    refine hq_pg 120 (hstep_andg (gi := 12) (j := 112) _ _ rfl rfl rfl rfl) rfl rfl rfl rfl ?_
    refine hq_g3 121 12 112 108 true false _ _ (fun hb hb2 => hop_move rfl) rfl rfl rfl rfl rfl pre0 rfl rfl rfl ?_
    refine sth 121 (fun hb => hop_fa fd_46_2 rfl) rfl rfl rfl rfl rfl ?_
    refine hq_g2 123 21 121 _ _ true _ (fun hb => HOp.val (v' := intV (e.getD i default).high) (hol_load ty_3 rfl (nb rfl) (nb rfl) (fun h => (by rfl))) (rfl)) rfl rfl rfl rfl (pre1 rfl) rfl rfl rfl ?_
    refine sth 121 (fun hb => hop_fa fd_46_1 rfl) rfl rfl rfl rfl rfl ?_
    refine hq_g2 125 21 121 _ _ true _ (fun hb => HOp.val (v' := intV (e.getD i default).low) (hol_load ty_3 rfl (nb rfl) (nb rfl) (fun h => (by rfl))) (rfl)) rfl rfl rfl rfl (pre1 rfl) rfl rfl rfl ?_
    refine sth 121 (fun hb => hop_geq rfl rfl) rfl rfl rfl rfl rfl ?_
    refine hq_pg 127 (hstep_andg (gi := 12) (j := 112) _ _ rfl rfl rfl rfl) rfl rfl rfl rfl ?_
    refine hq_pg 128 (hstep_org (gi := 8) (j := 108) _ _ rfl rfl rfl rfl) rfl rfl rfl rfl ?_
    refine hq_p 129 (hstep_and _ _ rfl rfl rfl) rfl rfl rfl ?_
    refine sta rfl rfl rfl ?_
    refine hseq_nilU (by rfl) (by simp only [dropUn, slots]; exact rfl) ?_
    refine h15 _ ?_
    refine srg fun N h16 => ?_
    refine stm rfl rfl rfl ?_
    refine stm rfl rfl rfl ?_
    refine stg 131 (fun hb => hop_fa fd_46_0 rfl) rfl rfl rfl rfl rfl ?_
    refine hq_g 133 1 131 false _ (fun hb => HOp.val (v' := intV (e.getD i default).kind) (hol_load ty_3 rfl (nb rfl) (nb rfl) (fun h => (by rfl))) (rfl)) rfl rfl rfl rfl (pre1 rfl) rfl rfl rfl ?_
    refine stg 131 (fun hb => hop_eql rfl rfl) rfl rfl rfl rfl rfl ?_
    refine stg 131 (fun hb => hop_move rfl) rfl rfl rfl rfl rfl ?_
    refine hq_g3 136 5 135 131 false true _ _ (fun hb hb2 => hop_move rfl) rfl rfl rfl rfl rfl pre0 rfl rfl rfl ?_
    refine hq_g3 137 5 135 131 false true _ _ (fun hb hb2 => hop_eql rfl rfl) rfl rfl rfl rfl rfl pre0 rfl rfl rfl ?_
    refine hq_pg 138 (hstep_andg (gi := 1) (j := 131) _ _ rfl rfl rfl rfl) rfl rfl rfl rfl ?_
    refine stg 131 (fun hb => hop_move rfl) rfl rfl rfl rfl rfl ?_
    refine hq_g3 140 9 139 131 false true _ _ (fun hb hb2 => hop_move rfl) rfl rfl rfl rfl rfl pre0 rfl rfl rfl ?_
    refine hq_pg 141 (hstep_andg (gi := 1) (j := 131) _ _ rfl rfl rfl rfl) rfl rfl rfl rfl ?_
    refine stg 131 (fun hb => hop_move rfl) rfl rfl rfl rfl rfl ?_
    refine hq_g3 143 12 142 131 false true _ _ (fun hb hb2 => hop_fa fd_46_3 rfl) rfl rfl rfl rfl rfl pre0 rfl rfl rfl ?_
    refine hq_g3 144 12 142 131 false true _ _ (fun hb hb2 => HOp.val (v' := strV (e.getD i default).name) (hol_load ty_9 rfl (nb rfl) (nb rfl) (fun h => (by rfl))) (rfl)) rfl rfl rfl rfl rfl (pre1 rfl) rfl rfl rfl ?_
    refine hq_g3 145 12 142 131 false true _ _ (fun hb hb2 => hop_seq_l rfl rfl) rfl rfl rfl rfl rfl pre0 rfl rfl rfl ?_
    refine hq_pg 146 (hstep_andg (gi := 1) (j := 131) _ _ rfl rfl rfl rfl) rfl rfl rfl rfl ?_
    refine hq_p 147 (hstep_or _ _ rfl rfl rfl) rfl rfl rfl ?_
    refine sta rfl rfl rfl ?_
    refine hseq_nilU (by rfl) (by simp only [dropUn, slots]; exact rfl) ?_
    refine h16 _ ?_
    refine srg fun N h17 => ?_
    refine stm rfl rfl rfl ?_
    refine st0 (hop_not rfl) rfl rfl ?_
    refine snl h17 ?_
    refine hw_cond _ rfl (fun hc1 => ?_) (fun hc1 => ?_)
    · have hr1 := hc1; (try simp only [hcs, Int.reduceToNat] at hc1)
      have hal := hr1; rw [ref_big hN] at hal
      refine srg fun N h18 => ?_
      refine sta rfl rfl rfl ?_
      refine snl h18 ?_
      refine hw_ret ?_
      refine hq_block_ret ?_
      refine hq_then_ret ?_
      refine hq_then_ret ?_
      refine hq_block_ret ?_
      refine hq_then_ret ?_
      refine hq_ret1 rfl (rval_tmp rfl) [] rfl pre0 ?_
      rw [fine_no hil (by simpa using hal)]; exact .imm _
    have hr1 := hc1; (try simp only [hcs, Int.reduceToNat] at hc1)
    have hal := hr1; rw [ref_big hN] at hal; simp only [hcs] at hal
    refine hw_skip ?_
    refine hq_block ?_
    refine h7 _ ?_
    refine hw_region ?_
    refine stm rfl rfl rfl ?_
    refine st0 (hop_addi rfl rfl rfl (by omega) (by omega)) rfl rfl ?_
    refine sta rfl rfl rfl ?_
    refine hseq_nil ?_
    exact hL4 (i + 1) _ _ (by (try dsimp only); exact ⟨by omega, fun j hj => by by_cases e' : j = i; (· subst e'; exact hal); exact hE j (by omega)⟩) (by (try dsimp only); omega) (hsub_of rfl (Nat.le_refl _) (TmSub.cons rfl (Sb.refl _) (TmSub.cons rfl (Sb.refl _) TmSub.nil)) HpSub.nil)
  have hr0 := hc0; (try simp only [hcs, Int.reduceToNat] at hc0)
  refine hw_exit ?_
  refine hq_then_exit ?_
  refine hq_then_exit ?_
  refine hq_block_here ?_
  refine h2 _ ?_
  refine hw_seq (fun Nh19 h19 => ?_)
  have hall := fine_yes (fun j hj => hE j (by omega))
  refine hw_region ?_
  refine stm rfl rfl rfl ?_
  refine st0 (hop_len_sl (T := 41) rfl (elOf_spec el_41).1 rfl) rfl rfl ?_
  refine st0 (hop_eql rfl rfl) rfl rfl ?_
  refine stm rfl rfl rfl ?_
  refine stg 153 (fun hb => hop_move rfl) rfl rfl rfl rfl rfl ?_
  refine stg 153 (fun hb => hop_move rfl) rfl rfl rfl rfl rfl ?_
  refine stg 153 (fun hb => hop_len_sl (T := 41) rfl (elOf_spec el_41).1 rfl) rfl rfl rfl rfl rfl ?_
  refine stg 153 (fun hb => HOp.val (v' := intV ((e.length - 1 : Nat) : Int)) (hop_subi rfl rfl rfl (by (simp at hb; first | omega | (dsimp only; omega) | (simp <;> omega))) (by (simp at hb; first | omega | (dsimp only; omega) | (simp <;> omega)))) (congrArg intV (len_sub hb))) rfl rfl rfl rfl rfl ?_
  refine stg 153 (fun hb => hop_call0 (xs := [_, _]) (whole_h e he e.length (e.length - 1) (len_lt hb) (len_lt hb)) ⟨rfl, ⟨rfl, trivial⟩⟩ ⟨(Fz.eq rfl), ⟨(Fz.eq rfl), trivial⟩⟩) rfl rfl rfl rfl rfl ?_
  refine stg 153 (fun hb => hop_eql rfl rfl) rfl rfl rfl rfl rfl ?_
  refine hq_p 160 (hstep_or _ _ rfl rfl rfl) rfl rfl rfl ?_
  refine sta rfl rfl rfl ?_
  refine hseq_nilU (by rfl) (by simp only [dropUn, slots]; exact rfl) ?_
  refine h19 _ ?_
  refine hw_ret ?_
  refine hq_ret1 rfl (rval_tmp rfl) [] rfl pre0 ?_
  exact fz_bool (by unfold refRightV; rw [hall]; simp only [beq_d, int_0, Bool.true_and])
end Go.Proofs.YtmcchhmgchgaaaaDoor

namespace Go.Proofs.YtmcchhmgchgaaaaDoor
set_option linter.unusedSimpArgs false
set_option linter.unusedVariables false
set_option maxRecDepth 100000
set_option maxHeartbeats 1000000
open Go.RowKit

theorem few_B {e : List Pt} (h : fewV e = true) : PtB e := by
  have := few_at h
  refine ⟨by omega, fun i hi => ?_⟩
  have := this.2 i hi
  omega
end Go.Proofs.YtmcchhmgchgaaaaDoor

namespace Go.Proofs.YtmcchhmgchgaaaaDoor
set_option linter.unusedSimpArgs false
set_option linter.unusedVariables false

theorem rootsL_app : ∀ (ts us : List T) (b : Nat), rootsL b (ts ++ us) = rootsL b ts ++ rootsL (b + T.sizeL ts) us
  | [], us, b => by simp [rootsL, T.sizeL]
  | t :: ts, us, b => by simp [rootsL, T.sizeL, rootsL_app ts, Nat.add_assoc]
theorem flatL_app : ∀ (ts us : List T) (b : Nat), T.flatL b (ts ++ us) = T.flatL b ts ++ T.flatL (b + T.sizeL ts) us
  | [], us, b => by simp [T.flatL, T.sizeL]
  | t :: ts, us, b => by simp [T.flatL, T.sizeL, flatL_app ts, Nat.add_assoc]
theorem okL_app : ∀ (ts us : List T), T.okL (ts ++ us) = (T.okL ts && T.okL us)
  | [], us => by simp [T.okL]
  | t :: ts, us => by simp [T.okL, okL_app ts, Bool.and_assoc]
theorem rightL_tree (n : Nat) : ∀ (r : List Pt) (i : Nat) (ts : List T), T.okL ts = true → T.sizeL ts = i → rightL n i r (rootsL 0 ts) = true → ∃ us : List T, T.okL us = true ∧ T.flatL 0 us = T.flatL 0 ts ++ r ∧ (us.length = 1 ∨ n = 0)
  | [], i, ts, hok, hs, h => ⟨ts, hok, by simp, by simpa [rightL, rootsL_len] using h⟩
  | x :: r, i, ts, hok, hs, h => by
    simp only [rightL, Bool.and_eq_true, decide_eq_true_eq] at h
    obtain ⟨⟨hal, hk, hd⟩, hr⟩ := h
    rw [rootsL_len] at hk hd hr
    obtain ⟨u, v, rfl, hv⟩ : ∃ u v, ts = u ++ v ∧ v.length = x.kids.length := ⟨ts.take (ts.length - x.kids.length), ts.drop (ts.length - x.kids.length), (List.take_append_drop _ _).symm, by rw [List.length_drop]; omega⟩
    have hul : (u ++ v).length - x.kids.length = (rootsL 0 u).length := by rw [rootsL_len, List.length_append]; omega
    rw [hul, rootsL_app, List.drop_left] at hd
    rw [hul, rootsL_app, List.take_left] at hr
    rw [okL_app, Bool.and_eq_true] at hok
    obtain ⟨t, htok, hfl⟩ := alone_tree hal hd hok.2
    have hsz : T.sizeL u + T.sizeL v = i := by
      have : ∀ a b : List T, T.sizeL (a ++ b) = T.sizeL a + T.sizeL b := fun a b => by
        induction a with
        | nil => simp [T.sizeL]
        | cons t a ih => simp [T.sizeL, ih, Nat.add_assoc]
      rw [this] at hs; exact hs
    have htl : t.size = T.sizeL v + 1 := by
      have := congrArg List.length hfl
      rw [T.flat_len, List.length_append, T.flatL_len] at this
      simpa using this
    have e1 : rootsL 0 u ++ [(i : Int)] = rootsL 0 (u ++ [t]) := by
      rw [rootsL_snoc]
      congr 1
      unfold T.root
      congr 1
      omega
    rw [e1] at hr
    obtain ⟨us, h1, h2, h3⟩ := rightL_tree n r (i + 1) (u ++ [t]) (by rw [okL_app, hok.1]; simp [T.okL, htok]) (by rw [T.sizeL_snoc]; omega) hr
    refine ⟨us, h1, ?_, h3⟩
    rw [h2, T.flatL_snoc, flatL_app, hfl]
    simp
theorem rightV_tree {e : List Pt} (h : rightV e = true) : e = [] ∨ ∃ t : T, t.ok = true ∧ e = T.flat 0 t := by
  obtain ⟨us, hok, hf, hu⟩ := rightL_tree e.length e 0 [] rfl rfl h
  simp only [T.flatL, List.nil_append] at hf
  rcases hu with hu | hu
  · match us, hu with
    | [t], _ =>
      simp only [T.okL, Bool.and_eq_true] at hok
      exact .inr ⟨t, hok.1, by rw [← hf]; simp [T.flatL]⟩
  · exact .inl (List.length_eq_zero_iff.1 hu)
theorem wloop_kids {R : Nat → Int} {ts : List T} {b : Nat} (hR : ∀ i, i < ts.length → R (b + T.sizeL (ts.take i) + (ts.getD i default).size - 1) = ((b + T.sizeL (ts.take i) : Nat) : Int)) : ∀ n, n ≤ ts.length → wloop R (rootsL b ts) n (b + T.sizeL (ts.take n)) = (b : Int)
  | 0, _ => by simp [wloop, T.sizeL]
  | n + 1, h => by
    have hsz := sizeL_take ts n h
    have hps := (ts.getD n default).size_pos
    have hr := hR n h
    unfold wloop
    rw [if_neg (by rw [roots_get ts b n h]; unfold T.root; omega)]
    have e : b + T.sizeL (ts.take (n + 1)) - 1 = b + T.sizeL (ts.take n) + (ts.getD n default).size - 1 := by omega
    rw [e, hr, if_neg (by omega), Int.toNat_natCast]
    exact wloop_kids hR n (by omega)
mutual
theorem whole_of {e : List Pt} : ∀ (t : T) (b f : Nat), AtP e b (T.flat b t) → b + t.size - 1 < f → wholeN e f (b + t.size - 1) = (b : Int)
  | t, b, 0, _, h => absurd h (Nat.not_lt_zero _)
  | .name s, b, f + 1, hat, h => by
    have ht := (at_top hat).1
    show wloop (wholeN e f) (e.getD _ default).kids (e.getD _ default).kids.length _ = _
    rw [ht]; simp [T.top, wloop, T.size]
  | .times lo hi t, b, f + 1, hat, h => by
    have ht := (at_top hat).1
    have hps := t.size_pos
    simp only [T.size] at h ht ⊢
    show wloop (wholeN e f) (e.getD _ default).kids (e.getD _ default).kids.length _ = _
    rw [ht]
    have hi := whole_of t b f (by simp only [T.flat] at hat; exact atP_left hat) (by omega)
    show wloop (wholeN e f) [((b + t.size : Nat) : Int) - 1] 1 (b + (t.size + 1) - 1) = _
    unfold wloop
    rw [if_neg (by show ¬ (_ ∨ ((b + t.size : Nat) : Int) - 1 ≠ _); omega), show b + (t.size + 1) - 1 - 1 = b + t.size - 1 by omega, hi, if_neg (by omega), Int.toNat_natCast]
    rfl
  | .many k ts, b, f + 1, hat, h => by
    have ht := (at_top hat).1
    simp only [T.size] at h ht ⊢
    show wloop (wholeN e f) (e.getD _ default).kids (e.getD _ default).kids.length _ = _
    rw [ht]
    show wloop (wholeN e f) (rootsL b ts) (rootsL b ts).length (b + (T.sizeL ts + 1) - 1) = _
    rw [rootsL_len]
    have key := wloop_kids (R := wholeN e f) (ts := ts) (b := b) (fun i hi => whole_ofL ts i hi _ f (at_kid hat hi) (by
      have hst := sizeL_take ts i hi
      have hsp := (ts.getD i default).size_pos
      have : T.sizeL (ts.take (i + 1)) ≤ T.sizeL ts := by
        have : ∀ (us : List T) (n : Nat), T.sizeL (us.take n) ≤ T.sizeL us := fun us => by
          induction us with
          | nil => intro n; simp [T.sizeL]
          | cons u us ih => intro n; cases n with
            | zero => simp [T.sizeL]
            | succ n => simp only [List.take_succ_cons, T.sizeL]; have := ih n; omega
        exact this ts _
      omega)) ts.length (Nat.le_refl _)
    rw [List.take_length] at key
    rw [show b + (T.sizeL ts + 1) - 1 = b + T.sizeL ts by omega]
    exact key
theorem whole_ofL {e : List Pt} : ∀ (ts : List T) (i : Nat), i < ts.length → ∀ (b f : Nat), AtP e b (T.flat b (ts.getD i default)) → b + (ts.getD i default).size - 1 < f → wholeN e f (b + (ts.getD i default).size - 1) = (b : Int)
  | [], i, hi => absurd hi (Nat.not_lt_zero _)
  | t :: ts, i, hi => fun b f hat h => by
    cases i with
    | zero => exact whole_of t b f hat h
    | succ i => have := whole_ofL ts i (by simpa using hi) b f (by simpa using hat) (by simpa using h); simpa using this
end
mutual
theorem flat_fine : ∀ (t : T) (b : Nat), t.ok = true → ∀ x ∈ T.flat b t, aloneV x = true
  | .name s, b, h => fun x hx => by
    simp only [T.flat, List.mem_singleton] at hx
    subst hx
    simp only [T.ok] at h
    simp [aloneV, h]
  | .times lo hi t, b, h => fun x hx => by
    simp only [T.ok, Bool.and_eq_true] at h
    simp only [T.flat, List.mem_append, List.mem_singleton] at hx
    rcases hx with hx | rfl
    · exact flat_fine t b h.2 x hx
    · unfold aloneV
      rw [if_neg (show ¬ (4 : Int) = 1 by decide), if_neg (show ¬ ((4 : Int) = 2 ∨ (4 : Int) = 3) by decide), if_pos rfl]
      simp only [Bool.and_eq_true]
      exact ⟨⟨⟨⟨rfl, h.1.1.1⟩, h.1.1.2⟩, h.1.2⟩, rfl⟩
  | .many k ts, b, h => fun x hx => by
    simp only [T.ok, Bool.and_eq_true, Bool.or_eq_true, decide_eq_true_eq] at h
    simp only [T.flat, List.mem_append, List.mem_singleton] at hx
    rcases hx with hx | rfl
    · exact flat_fineL ts b h.2 x hx
    · unfold aloneV
      rw [if_neg (by show ¬ k = 1; omega), if_pos (by show k = 2 ∨ k = 3; exact h.1.1)]
      simp only [rootsL_len]
      rw [decide_eq_true (show 1 < ts.length by omega)]; rfl
theorem flat_fineL : ∀ (ts : List T) (b : Nat), T.okL ts = true → ∀ x ∈ T.flatL b ts, aloneV x = true
  | [], b, _ => fun x hx => by simp [T.flatL] at hx
  | t :: ts, b, h => fun x hx => by
    simp only [T.okL, Bool.and_eq_true] at h
    simp only [T.flatL, List.mem_append] at hx
    rcases hx with hx | hx
    · exact flat_fine t b h.1 x hx
    · exact flat_fineL ts _ h.2 x hx
end
theorem refRight_of_ok {t : T} (h : t.ok = true) : refRightV (T.flat 0 t) = true := by
  have hf : fineV (T.flat 0 t) = true := by rw [fineV, List.all_eq_true]; exact flat_fine t 0 h
  have hw := whole_of t 0 (T.flat 0 t).length (e := T.flat 0 t) ⟨[], [], by simp, rfl⟩ (by rw [T.flat_len]; have := t.size_pos; omega)
  rw [Nat.zero_add] at hw
  unfold refRightV
  rw [hf, T.flat_len] at *
  rw [show ((0 : Nat) : Int) = 0 from rfl] at hw
  rw [hw]; simp
/-- Both answers are the same. -/
theorem right_same (e : List Pt) : rightV e = refRightV e := by
  rw [Bool.eq_iff_iff]
  constructor
  · intro h
    rcases rightV_tree h with rfl | ⟨t, hok, rfl⟩
    · rfl
    · exact refRight_of_ok hok
  · intro h
    rcases right_tree h with rfl | ⟨t, hok, rfl⟩
    · rfl
    · exact right_of_ok hok
end Go.Proofs.YtmcchhmgchgaaaaDoor

namespace Go.Proofs.YtmcchhmgchgaaaaDoor
set_option linter.unusedSimpArgs false
set_option linter.unusedVariables false

def T.kidsT : T → List T
  | .name _ => []
  | .times _ _ t => [t]
  | .many _ ts => ts
theorem top_kids (b : Nat) (t : T) : (t.top b).kids = rootsL b t.kidsT := by
  cases t <;> simp [T.top, T.kidsT, rootsL]
def nameS (t : T) : List Sg := match t with | .name s => [⟨1, 0, 0, 0, s⟩] | _ => []
def timesS (t : T) : List Sg := match t with | .times lo hi _ => [⟨5, 0, lo, hi, []⟩] | _ => []
theorem sig_kids (t : T) : t.sig = nameS t ++ T.sigL t.kind true t.kidsT ++ timesS t := by
  cases t with
  | name s => simp [T.sig, nameS, timesS, T.kidsT, T.sigL, T.kind]
  | times lo hi t => simp [T.sig, nameS, timesS, T.kidsT, T.sigL, T.kind, orS]
  | many k ts => simp [T.sig, nameS, timesS, T.kidsT, T.kind]
theorem kids_ok {t : T} (h : t.ok = true) : T.okL t.kidsT = true := by
  cases t with
  | name s => rfl
  | times lo hi t => simp only [T.ok, Bool.and_eq_true] at h; simp [T.kidsT, T.okL, h.2]
  | many k ts => simp only [T.ok, Bool.and_eq_true] at h; exact h.2
theorem kids_at' {e : List Pt} {b i : Nat} {t : T} (h : AtP e b (T.flat b t)) (hi : i < t.kidsT.length) : AtP e (b + T.sizeL (t.kidsT.take i)) (T.flat (b + T.sizeL (t.kidsT.take i)) (t.kidsT.getD i default)) := by
  cases t with
  | name s => exact absurd hi (Nat.not_lt_zero _)
  | times lo hi' t =>
    obtain rfl : i = 0 := by simpa [T.kidsT] using hi
    simp only [T.flat] at h
    have := atP_left h
    simpa [T.kidsT, T.sizeL] using this
  | many k ts => exact at_kid h hi
/-- The kinds that trees have. -/
theorem kind_ok {t : T} (h : t.ok = true) : t.kind = 1 ∨ t.kind = 2 ∨ t.kind = 3 ∨ t.kind = 4 := by
  cases t with
  | name s => exact .inl rfl
  | times lo hi t => exact .inr (.inr (.inr rfl))
  | many k ts =>
    simp only [T.ok, Bool.and_eq_true, Bool.or_eq_true, decide_eq_true_eq] at h
    rcases h.1.1 with hk | hk
    · exact .inr (.inl hk)
    · exact .inr (.inr (.inl hk))
/-- The document's test of brackets. -/
theorem in_doc {p k : Int} (hp : p = 2 ∨ p = 3 ∨ p = 4) (hk : k = 1 ∨ k = 2 ∨ k = 3 ∨ k = 4) : (decide (k = 3) || decide (k = 2) && !decide (p = 3) || decide (k = 4) && decide (p = 4)) = inB p k := by
  rcases hp with rfl | rfl | rfl <;> rcases hk with rfl | rfl | rfl | rfl <;> rfl
/-- The names, each once. -/
def addN (o : List (List UInt8)) (x : Pt) : List (List UInt8) := if x.kind = 1 ∧ x.name ∉ o then o ++ [x.name] else o
def namesV (e : List Pt) : List (List UInt8) := e.foldl addN []
theorem names_take {e : List Pt} {i : Nat} (h : i < e.length) : namesV (e.take (i + 1)) = addN (namesV (e.take i)) (e.getD i default) := by
  have : e.take (i + 1) = e.take i ++ [e.getD i default] := by
    rw [List.take_add_one, List.getD_eq_getElem?_getD, List.getElem?_eq_getElem h]; rfl
  unfold namesV
  rw [this, List.foldl_append]; rfl
theorem names_len {e : List Pt} : ∀ i, (namesV (e.take i)).length ≤ i
  | 0 => by simp [namesV]
  | i + 1 => by
    have ih := names_len (e := e) i
    rcases Nat.lt_or_ge i e.length with h | h
    · rw [names_take h]
      unfold addN
      split
      · rw [List.length_append]; show _ + 1 ≤ _; omega
      · omega
    · rw [List.take_of_length_le (by omega)]
      rw [List.take_of_length_le (by omega)] at ih
      omega
end Go.Proofs.YtmcchhmgchgaaaaDoor

namespace Go.Proofs.YtmcchhmgchgaaaaDoor
set_option linter.unusedSimpArgs false
set_option linter.unusedVariables false
open Go.RowKit
section
variable {C : Ctx} {P : Program} {ops : Array Oper} {Q : Exit → Act → World → Prop} {n clk : Nat} {tm : List (Nat × TV)} {hp : List (Nat × HObj)} {rest : List Oper} {ty : TypeId} {pos : String} {af : Array Edge}
theorem caps_rep {w : World} {E : Env} {m : Nat} {vcs : Array Value} {cs : List HV} {caps : Nat → HV} {vs : Nat → Value} (hn : vcs.size = m) (hv : ∀ i, i < m → vcs[i]? = some (vs i)) (hr : ∀ i, i < m → Rep w E (vs i) (caps i)) (hcs : cs.length = m) (hci : ∀ i, i < m → cs[i]? = some (caps i)) : RepAll w E vcs.toList cs := by
  have : ∀ (l : List Value) (k : List HV), l.length = k.length → (∀ i, i < l.length → ∃ v x, l[i]? = some v ∧ k[i]? = some x ∧ Rep w E v x) → RepAll w E l k := by
    intro l
    induction l with
    | nil => intro k hl _; cases k with | nil => trivial | cons _ _ => simp at hl
    | cons v l ih =>
      intro k hl h
      cases k with
      | nil => simp at hl
      | cons x k =>
        obtain ⟨v', x', h1, h2, h3⟩ := h 0 (by simp)
        simp at h1 h2
        subst h1; subst h2
        exact ⟨h3, ih k (by simpa using hl) (fun i hi => by have := h (i + 1) (by simpa using hi); simpa using this)⟩
  refine this _ _ (by rw [Array.length_toList, hn, hcs]) (fun i hi => ?_)
  rw [Array.length_toList, hn] at hi
  exact ⟨vs i, caps i, by rw [Array.getElem?_toList]; exact hv i hi, hci i hi, hr i hi⟩
theorem repAll_app {w : World} {E : Env} {k : List Value} {cs : List HV} (hk : RepAll w E k cs) : ∀ {l : List Value} {m : List HV}, RepAll w E l m → RepAll w E (l ++ k) (m ++ cs)
  | [], [], _ => hk
  | _ :: _, _ :: _, h => ⟨h.1, repAll_app hk h.2⟩
  | [], _ :: _, h => h.elim
  | _ :: _, [], h => h.elim
theorem hf_callV {f : FuncId} {t m : Nat} {caps : Nat → HV} {args : List Operand} {at_ : Array TypeId} {xs cs : List HV} {pre : List (Nat × HObj)} {Post : HEnd → List (Nat × HObj) → Nat → Prop} (d : Nat)
    (hc : HFun P f clk (xs ++ cs) pre Post) (h0 : tget tm t = some (.v (.fn (.func f) m caps))) (hcs : cs.length = m) (hci : ∀ i, i < m → cs[i]? = some (caps i)) (hx : ovAll (pview (tget tm)) args xs) (hpre : ∀ p ∈ pre, hget hp p.1 = some p.2) (hlt : Nat.blt d n = true) (hk : nokey tm d = true)
    (h : ∀ r kp c', Post (.ret r) kp c' → HSeq C P ops rest ⟨n, (d, .v r) :: tm, kp ++ hp, c'⟩ Q) (hpan : ∀ x kp c', Post (.pan x) kp c' → HPan C Q ⟨n, tm, kp ++ hp, c'⟩ x) :
    HSeq C P ops (⟨some d, .call ⟨.value (.tmp t), args.toArray, at_⟩, ty, pos, af, none⟩ :: rest) ⟨n, tm, hp, clk⟩ Q := by
  intro a w ⟨E, e0, r, hG, hsz, hdf, ht⟩
  have hlt : d < n := by simpa [Nat.blt_eq] using hlt
  unfold wpSeq
  rw [if_pos (by simp [Region.wanted])]
  have hrep := pview_rep ht hx
  have hfn : Rep w E (a.eval (.tmp t)) (.fn (.func f) m caps) := ht t _ h0
  unfold Oper.wp execOp
  generalize hρ : a.eval (.tmp t) = u at hfn
  cases hfn with
  | fn _ vcs _ _ vs hn hv hr =>
    have hcap := caps_rep hn hv hr hcs hci
    have hargs : args.toArray.map a.eval ++ vcs = (args.map a.eval ++ vcs.toList).toArray := by
      apply Array.ext'
      simp
    simp only [resolve, hρ, Deferred.ofValue, invoke, Sem.run_bind, Sem.run_pure, Result.andThen_ok, Array.empty_append]
    rw [run_callFunc hc.1]
    simp only [Oper.upon]
    have hcalls := hc.2 ⟨C.K, C.w0, C.E0.F, E, hget hp, w, pre⟩ (args.map a.eval ++ vcs.toList) ⟨r, fun id o ho => hpre (id, o) (hget_mem ho)⟩ rfl (repAll_app hcap hrep) hG
    rw [← hargs] at hcalls
    refine Calls.mono hcalls ?_
    rintro e w' ⟨x, kp, c', E', hP, e', r', hG', _, hv⟩
    cases e with
    | returned v =>
      cases x with
      | pan x => exact hv.elim
      | ret x =>
        refine h x kp c' hP _ w' ⟨E', e0.trans e', by simp only [hget_append]; exact r', hG', by simp [Act.put, hsz], hdf.ext e', fun t y hy => ?_⟩
        simp only [tget_cons] at hy
        split at hy
        · rename_i htd
          subst htd
          injection hy with hy
          subst hy
          rw [getD_put_same (by rw [hsz]; exact hlt)]
          exact hv
        · rename_i htd
          rw [getD_put_ne htd]
          have := (ht t y hy).ext e'
          cases y with
          | v z => exact this
          | un j b z =>
            have hne := nokey_spec hk t j b z hy
            simp only [TVRep, getD_put_ne hne] at this ⊢; exact this
    | panicked ch =>
      cases x with
      | ret x => exact hv.elim
      | pan x =>
        obtain ⟨v, rfl, hv⟩ := hv
        exact hpan x kp c' hP a w' E' v (e0.trans e') (by simp only [hget_append]; exact r') hG' hsz (hdf.ext e') (fun t y hy => (ht t y hy).ext e') hv
    | outgrown => cases x <;> exact hv.elim
theorem hf_callVR {α : Type} {I : α → Nat → Prop} {r : α → HV} {kpf : α → List (Nat × HObj)} {f : FuncId} {t m : Nat} {caps : Nat → HV} {args : List Operand} {at_ : Array TypeId} {xs cs : List HV} {pre : List (Nat × HObj)} (d : Nat)
    (hc : HFun P f clk (xs ++ cs) pre (RetP I r kpf)) (h0 : tget tm t = some (.v (.fn (.func f) m caps))) (hcs : cs.length = m) (hci : ∀ i, i < m → cs[i]? = some (caps i)) (hx : ovAll (pview (tget tm)) args xs) (hpre : ∀ p ∈ pre, hget hp p.1 = some p.2) (hlt : Nat.blt d n = true) (hk : nokey tm d = true)
    (h : ∀ x c', I x c' → HSeq C P ops rest ⟨n, (d, .v (r x)) :: tm, kpf x ++ hp, c'⟩ Q) :
    HSeq C P ops (⟨some d, .call ⟨.value (.tmp t), args.toArray, at_⟩, ty, pos, af, none⟩ :: rest) ⟨n, tm, hp, clk⟩ Q :=
  hf_callV d hc h0 hcs hci hx hpre hlt hk (fun _ _ c' ⟨x, hI, he, hk⟩ => by injection he with he; subst he; subst hk; exact h x c' hI) (fun _ _ _ ⟨_, _, he, _⟩ => by cases he)
end
end Go.Proofs.YtmcchhmgchgaaaaDoor

namespace Go.Proofs.YtmcchhmgchgaaaaDoor
set_option linter.unusedSimpArgs false
set_option linter.unusedVariables false
open Go.RowKit
theorem hw_joinc {C : Ctx} {P : Program} {Q : Exit → Act → World → Prop} {s : HSt} {α : Type} {x y : Code} (st : α → Nat → HSt) (I : α → Prop)
    (first : ∀ N : Act → World → Prop, (∀ z c' s', I z → HSub C s' (st z c') → HQ C (Exit.then N Q) .normal s') → HWp C P x s (Exit.then N Q)) (rest : ∀ z c, I z → HWp C P y (st z c) Q) : HWp C P (.seq x y) s Q :=
  hw_seq fun N hN => first N fun z c' s' hI hs a w ha => hN (st z c') (rest z c' hI) a w (hs a w ha)
section
variable {P : Program} {n clk : Nat} {tm0 : List (Nat × TV)} {hp0 : List (Nat × HObj)} {ss : List HSpec} {Fin : Prop} {o : Oper} {rest dn : List Oper} {k : Nat} {tm : List (Nat × TV)} {hp : List (Nat × HObj)} {L : List Oper} {pre post : List (Nat × HObj)} {v : HV}
/-- Guards under guards, in a drawn region. -/
theorem hd_g2 (d gi j j2 : Nat) (b2 b c : Bool) (hop : c = b → HOp P o (gview (tget tm) j b) (clk + k) pre v []) (hd : o.dst = some d) (hg : o.guard = some (gi, b)) (hgi : (L.toArray[gi]?).bind (·.dst) = some j) (hc : tget tm j = some (.un j2 b2 (.imm (.bool c)))) (hpre : ∀ p ∈ pre, hget hp p.1 = some p.2) (hlt : Nat.blt d n = true)
    {k' : Nat} (hk' : k + 1 = k') (h : HDr P n clk tm0 hp0 L (dn ++ [o]) (ss ++ [⟨.un j b v, j :: ops_tmps o, pre, []⟩]) rest k' ((d, .un j b v) :: tm) hp Fin) : HDr P n clk tm0 hp0 L dn ss (o :: rest) k tm hp Fin := by subst hk'; exact hd_cons ⟨.un j b v, j :: ops_tmps o, pre, []⟩ d hd (hstep_guard gi j b c hg hgi (.inr ⟨j2, b2, hc⟩) hop) hpre hlt h
theorem hd_pg (d : Nat) {need : List Nat} {j : Nat} {b : Bool} (hst : HStep P L.toArray o (tget tm) (clk + k) ⟨.un j b v, need, [], []⟩) (hd : o.dst = some d) (hlt : Nat.blt d n = true)
    {k' : Nat} (hk' : k + 1 = k') (h : HDr P n clk tm0 hp0 L (dn ++ [o]) (ss ++ [⟨.un j b v, need, [], []⟩]) rest k' ((d, .un j b v) :: tm) hp Fin) : HDr P n clk tm0 hp0 L dn ss (o :: rest) k tm hp Fin := by subst hk'; exact hd_cons ⟨.un j b v, need, [], []⟩ d hd hst pre0 hlt h
end
end Go.Proofs.YtmcchhmgchgaaaaDoor

namespace Go.Proofs.YtmcchhmgchgaaaaDoor
set_option linter.unusedSimpArgs false
set_option linter.unusedVariables false
set_option maxRecDepth 100000
set_option maxHeartbeats 1000000
open Go.RowKit

instance frz_fn0 (f : Fn) (c : Nat → HV) : Frz (.fn f 0 c) := ⟨.fn _ 0 _ _ (fun i hi => absurd hi (Nat.not_lt_zero _))⟩
/-- slices.Equal of two rows that came in. -/
theorem equalP_h (a b : List Int) (ha : a.length ≤ 1000000) (hb : b.length ≤ 1000000) : HPure Tryd.prog 49 [kidsV a, kidsV b] (boolV (decide (a = b))) := by
  refine hpure_of Tryd.func49 rfl (by kernel_rfl) _ _ _ rfl 26 rfl rfl (fun w F => ?_)
  refine srg fun N h1 => ?_
  refine sta rfl rfl rfl ?_
  refine snl h1 ?_
  refine hw_seq (fun Nh2 h2 => ?_)
  refine srg fun N h3 => ?_
  refine stm rfl rfl rfl ?_
  refine st0 (hop_len_sl (T := 44) rfl (elOf_spec el_44).1 rfl) rfl rfl ?_
  refine stm rfl rfl rfl ?_
  refine st0 (hop_len_sl (T := 44) rfl (elOf_spec el_44).1 rfl) rfl rfl ?_
  refine st0 (hop_neq rfl rfl) rfl rfl ?_
  refine snl h3 ?_
  refine hw_cond _ rfl (fun hc0 => ?_) (fun hc0 => ?_)
  · have hr0 := hc0; (try simp only [hcs, Int.reduceToNat] at hc0)
    refine srg fun N h4 => ?_
    refine sta rfl rfl rfl ?_
    refine snl h4 ?_
    refine hw_ret ?_
    refine hq_then_ret ?_
    refine hq_ret1 rfl (rval_tmp rfl) [] rfl pre0 ?_
    rw [decide_eq_false (fun h => hc0 (by rw [h]))]; exact .imm _
  have hr0 := hc0; (try simp only [hcs, Int.reduceToNat] at hc0)
  refine hw_skip ?_
  refine h2 _ ?_
  refine hw_seq (fun Nh5 h5 => ?_)
  refine srg fun N h6 => ?_
  refine stm rfl rfl rfl ?_
  refine st0 (hop_len_sl (T := 44) rfl (elOf_spec el_44).1 rfl) rfl rfl ?_
  refine stm rfl rfl rfl ?_
  refine snl h6 ?_
  refine hw_block ?_
  refine hw_loopc (α := Nat) (fun x c => ⟨26, [(0, .v (kidsV a)), (1, .v (kidsV b)), (12, .v (intV a.length)), (13, .v (intV x))], [], c⟩) (fun x => x ≤ a.length ∧ ∀ j, j < x → a.getD j 0 = b.getD j 0) (fun x => a.length - x) (0) (by exact ⟨Nat.zero_le _, fun j hj => absurd hj (Nat.not_lt_zero _)⟩) (hsub_of rfl (Nat.le_refl _) (TmSub.cons rfl (Sb.refl _) (TmSub.cons rfl (Sb.refl _) (TmSub.cons rfl (Sb.refl _) (TmSub.cons rfl (Sb.refl _) TmSub.nil)))) HpSub.nil) (fun k c hx NhL7 hL7 => ?_)
  (try dsimp only at hx hL7 ⊢)
  obtain ⟨hk, hE⟩ := hx
  refine srg fun N h8 => ?_
  refine st0 (hop_lss rfl rfl) rfl rfl ?_
  refine snl h8 ?_
  refine hw_seq (fun Nh9 h9 => ?_)
  refine hw_cond _ rfl (fun hc1 => ?_) (fun hc1 => ?_)
  · have hr1 := hc1; (try simp only [hcs, Int.reduceToNat] at hc1)
    refine hw_skip ?_
    refine h9 _ ?_
    refine hw_seq (fun Nh10 h10 => ?_)
    refine hw_block ?_
    refine srg fun N h11 => ?_
    refine stm rfl rfl rfl ?_
    refine sta rfl rfl rfl ?_
    refine snl h11 ?_
    refine hw_seq (fun Nh12 h12 => ?_)
    refine hd_start ?_
    refine hd_q 16 (hop_move rfl) rfl rfl pre0 rfl rfl (k' := 1) rfl ?_
    refine hd_q 17 (hop_move rfl) rfl rfl pre0 rfl rfl (k' := 2) rfl ?_
    refine hd_q 18 (hop_ia_sl el_44 rfl rfl (by omega) (by omega) (nb rfl)) rfl rfl pre0 rfl rfl (k' := 3) rfl ?_
    refine hd_q 19 (HOp.val (v' := intV (a.getD k 0)) (hop_load_fp ty_3 rfl (nb rfl) (fun h => (by rfl))) (rfl)) rfl rfl pre0 rfl rfl (k' := 4) rfl ?_
    refine hd_q 20 (hop_move rfl) rfl rfl pre0 rfl rfl (k' := 5) rfl ?_
    refine hd_q 21 (hop_move rfl) rfl rfl pre0 rfl rfl (k' := 6) rfl ?_
    refine hd_q 22 (hop_ia_sl el_44 rfl rfl (by omega) (by omega) (nb rfl)) rfl rfl pre0 rfl rfl (k' := 7) rfl ?_
    refine hd_q 23 (HOp.val (v' := intV (b.getD k 0)) (hop_load_fp ty_3 rfl (nb rfl) (fun h => (by rfl))) (rfl)) rfl rfl pre0 rfl rfl (k' := 8) rfl ?_
    refine hd_q 24 (hop_neq rfl rfl) rfl rfl pre0 rfl rfl (k' := 9) rfl ?_
    refine hd_nil (by kernel_rfl) (by kernel_rfl) (c' := c + 9) rfl ?_
    refine h12 _ ?_
    refine hw_cond _ rfl (fun hc2 => ?_) (fun hc2 => ?_)
    · have hr2 := hc2; (try simp only [hcs, Int.reduceToNat] at hc2)
      refine srg fun N h13 => ?_
      refine sta rfl rfl rfl ?_
      refine snl h13 ?_
      refine hw_ret ?_
      refine hq_block_ret ?_
      refine hq_then_ret ?_
      refine hq_then_ret ?_
      refine hq_block_ret ?_
      refine hq_then_ret ?_
      refine hq_ret1 rfl (rval_tmp rfl) [] rfl pre0 ?_
      rw [decide_eq_false (fun h => hc2 (by rw [h]))]; exact .imm _
    have hr2 := hc2; (try simp only [hcs, Int.reduceToNat] at hc2)
    refine hw_skip ?_
    refine hq_block ?_
    refine h10 _ ?_
    refine hw_region ?_
    refine st0 (hop_addi rfl rfl rfl (by omega) (by omega)) rfl rfl ?_
    refine stm rfl rfl rfl ?_
    refine hseq_nil ?_
    exact hL7 (k + 1) _ _ (by (try dsimp only); exact ⟨by omega, fun j hj => by by_cases e : j = k; (· subst e; exact hc2); exact hE j (by omega)⟩) (by (try dsimp only); omega) (hsub_of rfl (Nat.le_refl _) (TmSub.cons rfl (Sb.refl _) (TmSub.cons rfl (Sb.refl _) (TmSub.cons rfl (Sb.refl _) (TmSub.cons rfl (Sb.refl _) TmSub.nil)))) HpSub.nil)
  have hr1 := hc1; (try simp only [hcs, Int.reduceToNat] at hc1)
  refine hw_exit ?_
  refine hq_then_exit ?_
  refine hq_then_exit ?_
  refine hq_block_here ?_
  refine h5 _ ?_
  refine srg fun N h14 => ?_
  refine sta rfl rfl rfl ?_
  refine snl h14 ?_
  refine hw_ret ?_
  refine hq_ret1 rfl (rval_tmp rfl) [] rfl pre0 ?_
  rw [decide_eq_true (ext_getD 0 (by omega) (fun j hj => hE j (by omega)))]; exact .imm _
theorem same1_h (p q : Pt) (hp : p.kids.length ≤ 1000000) (hq : q.kids.length ≤ 1000000) : HPure Tryd.prog 55 [ptH p, ptH q] (boolV (decide (p = q))) := by
  refine hpure_of Tryd.func55 rfl (by kernel_rfl) _ _ _ rfl 38 rfl rfl (fun w F => ?_)
  refine srg fun N h1 => ?_
  refine hm_1 2 (hop_box (id := 2) (sz := 5) rfl rfl rfl (nb rfl) (nb rfl)) rfl rfl pre0 rfl rfl (c' := 1) rfl ?_
  refine hm_1 3 (hop_box (id := 3) (sz := 5) rfl rfl rfl (nb rfl) (nb rfl)) rfl rfl pre0 rfl rfl (c' := 2) rfl ?_
  refine sta rfl rfl rfl ?_
  refine snl h1 ?_
  refine srg fun N h2 => ?_
  refine st0 (hop_fa fd_75_0 rfl) rfl rfl ?_
  refine st1 (hol_load ty_3 rfl (nb rfl) (nb rfl) (fun h => (by rfl))) rfl rfl rfl ?_
  refine st0 (hop_fa fd_75_0 rfl) rfl rfl ?_
  refine st1 (hol_load ty_3 rfl (nb rfl) (nb rfl) (fun h => (by rfl))) rfl rfl rfl ?_
  refine st0 (hop_eql rfl rfl) rfl rfl ?_
  refine stm rfl rfl rfl ?_
  refine stg 10 (fun hb => hop_fa fd_75_1 rfl) rfl rfl rfl rfl rfl ?_
  refine hq_g 12 5 10 true _ (fun hb => hol_load ty_3 rfl (nb rfl) (nb rfl) (fun h => (by rfl))) rfl rfl rfl rfl (pre1 rfl) rfl rfl rfl ?_
  refine stg 10 (fun hb => hop_fa fd_75_1 rfl) rfl rfl rfl rfl rfl ?_
  refine hq_g 14 5 10 true _ (fun hb => hol_load ty_3 rfl (nb rfl) (nb rfl) (fun h => (by rfl))) rfl rfl rfl rfl (pre1 rfl) rfl rfl rfl ?_
  refine stg 10 (fun hb => hop_eql rfl rfl) rfl rfl rfl rfl rfl ?_
  refine hq_p 16 (hstep_and _ _ rfl rfl rfl) rfl rfl rfl ?_
  refine stm rfl rfl rfl ?_
  refine stg 17 (fun hb => hop_fa fd_75_2 rfl) rfl rfl rfl rfl rfl ?_
  refine hq_g 19 12 17 true _ (fun hb => hol_load ty_3 rfl (nb rfl) (nb rfl) (fun h => (by rfl))) rfl rfl rfl rfl (pre1 rfl) rfl rfl rfl ?_
  refine stg 17 (fun hb => hop_fa fd_75_2 rfl) rfl rfl rfl rfl rfl ?_
  refine hq_g 21 12 17 true _ (fun hb => hol_load ty_3 rfl (nb rfl) (nb rfl) (fun h => (by rfl))) rfl rfl rfl rfl (pre1 rfl) rfl rfl rfl ?_
  refine stg 17 (fun hb => hop_eql rfl rfl) rfl rfl rfl rfl rfl ?_
  refine hq_p 23 (hstep_and _ _ rfl rfl rfl) rfl rfl rfl ?_
  refine stm rfl rfl rfl ?_
  refine stg 24 (fun hb => hop_fa fd_75_3 rfl) rfl rfl rfl rfl rfl ?_
  refine hq_g 26 19 24 true _ (fun hb => hol_load ty_9 rfl (nb rfl) (nb rfl) (fun h => (by rfl))) rfl rfl rfl rfl (pre1 rfl) rfl rfl rfl ?_
  refine stg 24 (fun hb => hop_fa fd_75_3 rfl) rfl rfl rfl rfl rfl ?_
  refine hq_g 28 19 24 true _ (fun hb => hol_load ty_9 rfl (nb rfl) (nb rfl) (fun h => (by rfl))) rfl rfl rfl rfl (pre1 rfl) rfl rfl rfl ?_
  refine stg 24 (fun hb => hop_seq_l rfl rfl) rfl rfl rfl rfl rfl ?_
  refine hq_p 30 (hstep_and _ _ rfl rfl rfl) rfl rfl rfl ?_
  refine stm rfl rfl rfl ?_
  refine stg 31 (fun hb => hop_fa fd_75_4 rfl) rfl rfl rfl rfl rfl ?_
  refine hq_g 33 26 31 true _ (fun hb => HOp.val (v' := kidsV p.kids) (hol_load ty_44 rfl (nb rfl) (nb rfl) (fun h => (by rfl))) (rfl)) rfl rfl rfl rfl (pre1 rfl) rfl rfl rfl ?_
  refine stg 31 (fun hb => hop_fa fd_75_4 rfl) rfl rfl rfl rfl rfl ?_
  refine hq_g 35 26 31 true _ (fun hb => HOp.val (v' := kidsV q.kids) (hol_load ty_44 rfl (nb rfl) (nb rfl) (fun h => (by rfl))) (rfl)) rfl rfl rfl rfl (pre1 rfl) rfl rfl rfl ?_
  refine stg 31 (fun hb => hop_call0 (xs := [_, _]) (equalP_h p.kids q.kids hp hq) ⟨rfl, ⟨rfl, trivial⟩⟩ ⟨(Fz.eq rfl), ⟨(Fz.eq rfl), trivial⟩⟩) rfl rfl rfl rfl rfl ?_
  refine hq_p 37 (hstep_and _ _ rfl rfl rfl) rfl rfl rfl ?_
  refine sta rfl rfl rfl ?_
  refine hseq_nilU (by rfl) (by simp only [dropUn, slots]; exact rfl) ?_
  refine h2 _ ?_
  refine hw_ret ?_
  refine hq_ret1 rfl (rval_tmp rfl) [] rfl pre0 ?_
  exact fz_bool (by rw [Bool.eq_iff_iff]; simp; constructor; (rintro ⟨⟨⟨⟨h0, h1⟩, h2⟩, h3⟩, h4⟩; exact pt_ext h0 h1 h2 h3 h4); (rintro rfl; simp))
theorem eqFunc_h (a b : List Pt) (ha : PtB a) (hb : PtB b) : HPure Tryd.prog 54 [ptsV a, ptsV b, .fn (.func 55) 0 (fun _ => default)] (boolV (decide (a = b))) := by
  have hla := ha.1
  have hlb := hb.1
  refine hpure_of Tryd.func54 rfl (by kernel_rfl) _ _ _ rfl 32 rfl rfl (fun w F => ?_)
  refine srg fun N h1 => ?_
  refine sta rfl rfl rfl ?_
  refine snl h1 ?_
  refine hw_seq (fun Nh2 h2 => ?_)
  refine srg fun N h3 => ?_
  refine stm rfl rfl rfl ?_
  refine st0 (hop_len_sl (T := 49) rfl (elOf_spec el_49).1 rfl) rfl rfl ?_
  refine stm rfl rfl rfl ?_
  refine st0 (hop_len_sl (T := 49) rfl (elOf_spec el_49).1 rfl) rfl rfl ?_
  refine st0 (hop_neq rfl rfl) rfl rfl ?_
  refine snl h3 ?_
  refine hw_cond _ rfl (fun hc0 => ?_) (fun hc0 => ?_)
  · have hr0 := hc0; (try simp only [hcs, Int.reduceToNat] at hc0)
    refine srg fun N h4 => ?_
    refine sta rfl rfl rfl ?_
    refine snl h4 ?_
    refine hw_ret ?_
    refine hq_then_ret ?_
    refine hq_ret1 rfl (rval_tmp rfl) [] rfl pre0 ?_
    rw [decide_eq_false (fun h => hc0 (by rw [h]))]; exact .imm _
  have hr0 := hc0; (try simp only [hcs, Int.reduceToNat] at hc0)
  refine hw_skip ?_
  refine h2 _ ?_
  refine hw_seq (fun Nh5 h5 => ?_)
  refine srg fun N h6 => ?_
  refine stm rfl rfl rfl ?_
  refine st0 (hop_len_sl (T := 49) rfl (elOf_spec el_49).1 rfl) rfl rfl ?_
  refine stm rfl rfl rfl ?_
  refine snl h6 ?_
  refine hw_block ?_
  refine hw_loopc (α := Nat) (fun x c => ⟨32, [(0, .v (ptsV a)), (1, .v (ptsV b)), (2, .v (.fn (.func 55) 0 (fun _ => default))), (15, .v (ptsV a)), (16, .v (intV a.length)), (17, .v (intV x))], [], c⟩) (fun x => x ≤ a.length ∧ ∀ j, j < x → a.getD j default = b.getD j default) (fun x => a.length - x) (0) (by exact ⟨Nat.zero_le _, fun j hj => absurd hj (Nat.not_lt_zero _)⟩) (hsub_of rfl (Nat.le_refl _) (TmSub.cons rfl (Sb.refl _) (TmSub.cons rfl (Sb.refl _) (TmSub.cons rfl (Sb.refl _) (TmSub.cons rfl (Sb.refl _) (TmSub.cons rfl (Sb.refl _) (TmSub.cons rfl (Sb.refl _) TmSub.nil)))))) HpSub.nil) (fun k c hx NhL7 hL7 => ?_)
  (try dsimp only at hx hL7 ⊢)
  obtain ⟨hk, hE⟩ := hx
  refine srg fun N h8 => ?_
  refine st0 (hop_lss rfl rfl) rfl rfl ?_
  refine snl h8 ?_
  refine hw_seq (fun Nh9 h9 => ?_)
  refine hw_cond _ rfl (fun hc1 => ?_) (fun hc1 => ?_)
  · have hr1 := hc1; (try simp only [hcs, Int.reduceToNat] at hc1)
    have hka := ha.2 k (by omega); have hkb := hb.2 k (by omega)
    refine hw_skip ?_
    refine h9 _ ?_
    refine hw_seq (fun Nh10 h10 => ?_)
    refine hw_block ?_
    refine srg fun N h11 => ?_
    refine stm rfl rfl rfl ?_
    refine st0 (hop_ia_sl el_49 rfl rfl (by omega) (by omega) (nb rfl)) rfl rfl ?_
    refine st0 (hop_load_fp ty_75 rfl (nb rfl) (fun h => (by cases h))) rfl rfl ?_
    refine hm_1 8 (hop_alloc (id := 8) (sz := 5) zc_75 rfl rfl (nb rfl) (nb rfl)) rfl rfl pre0 rfl rfl (c' := c + 1) rfl ?_
    refine sta rfl rfl rfl ?_
    refine hm_s1 (hol_storeW ty_75 rfl rfl rfl rfl) rfl rfl (pre1 rfl) (c' := c + 2) rfl ?_
    refine snl h11 ?_
    refine srg fun N h12 => ?_
    refine stm rfl rfl rfl ?_
    refine stm rfl rfl rfl ?_
    refine st0 (hop_ia_sl el_49 rfl rfl (by omega) (by omega) (nb rfl)) rfl rfl ?_
    refine st0 (hop_load_fp ty_75 rfl (nb rfl) (fun h => (by cases h))) rfl rfl ?_
    refine hm_1 9 (hop_alloc (id := 9) (sz := 5) zc_75 rfl rfl (nb rfl) (nb rfl)) rfl rfl pre0 rfl rfl (c' := c + 3) rfl ?_
    refine hm_s1 (hol_storeW ty_75 rfl rfl rfl rfl) rfl rfl (pre1 rfl) (c' := c + 4) rfl ?_
    refine snl h12 ?_
    refine srg fun N h13 => ?_
    refine stm rfl rfl rfl ?_
    refine st1 (HOp.val (v' := ptH (a.getD k default)) (hol_load ty_75 rfl (nb rfl) (nb rfl) (fun h => (by cases h))) (rfl)) rfl rfl rfl ?_
    refine st1 (HOp.val (v' := ptH (b.getD k default)) (hol_load ty_75 rfl (nb rfl) (nb rfl) (fun h => (by cases h))) (rfl)) rfl rfl rfl ?_
    refine st0 (hop_callv0 (xs := [_, _]) (cs := []) (same1_h _ _ (by omega) (by omega)) rfl rfl (fun i hi => by first | rfl | (cases i <;> first | rfl | (simp at hi))) ⟨rfl, ⟨rfl, trivial⟩⟩ ⟨(Fz.eq rfl), ⟨(Fz.eq rfl), trivial⟩⟩) rfl rfl ?_
    refine st0 (hop_not rfl) rfl rfl ?_
    refine snl h13 ?_
    refine hw_cond _ rfl (fun hc2 => ?_) (fun hc2 => ?_)
    · have hr2 := hc2; (try simp only [hcs, Int.reduceToNat] at hc2)
      refine srg fun N h14 => ?_
      refine sta rfl rfl rfl ?_
      refine snl h14 ?_
      refine hw_ret ?_
      refine hq_block_ret ?_
      refine hq_then_ret ?_
      refine hq_then_ret ?_
      refine hq_block_ret ?_
      refine hq_then_ret ?_
      refine hq_ret1 rfl (rval_tmp rfl) [] rfl pre0 ?_
      rw [decide_eq_false (fun h => by rw [h] at hr2; simp at hr2)]; exact .imm _
    have hr2 := hc2; (try simp only [hcs, Int.reduceToNat] at hc2)
    refine hw_skip ?_
    refine hq_block ?_
    refine h10 _ ?_
    refine hw_region ?_
    refine st0 (hop_addi rfl rfl rfl (by omega) (by omega)) rfl rfl ?_
    refine stm rfl rfl rfl ?_
    refine hseq_nil ?_
    exact hL7 (k + 1) _ _ (by (try dsimp only); exact ⟨by omega, fun j hj => by by_cases e : j = k; (· subst e; exact of_decide_eq_true (by simpa using hr2)); exact hE j (by omega)⟩) (by (try dsimp only); omega) (hsub_of rfl (Nat.le_refl _) (TmSub.cons rfl (Sb.refl _) (TmSub.cons rfl (Sb.refl _) (TmSub.cons rfl (Sb.refl _) (TmSub.cons rfl (Sb.refl _) (TmSub.cons rfl (Sb.refl _) (TmSub.cons rfl (Sb.refl _) TmSub.nil)))))) HpSub.nil)
  have hr1 := hc1; (try simp only [hcs, Int.reduceToNat] at hc1)
  refine hw_exit ?_
  refine hq_then_exit ?_
  refine hq_then_exit ?_
  refine hq_block_here ?_
  refine h5 _ ?_
  refine srg fun N h15 => ?_
  refine sta rfl rfl rfl ?_
  refine snl h15 ?_
  refine hw_ret ?_
  refine hq_ret1 rfl (rval_tmp rfl) [] rfl pre0 ?_
  rw [decide_eq_true (ext_getD default (by omega) (fun j hj => hE j (by omega)))]; exact .imm _
theorem exprSame_h (a b : List Pt) (ha : PtB a) (hb : PtB b) : HPure Tryd.prog 30 [ptsV a, ptsV b] (boolV (decide (a = b))) := by
  refine hpure_of Tryd.func30 rfl (by kernel_rfl) _ _ _ rfl 8 rfl rfl (fun w F => ?_)
  refine srg fun N h1 => ?_
  refine sta rfl rfl rfl ?_
  refine snl h1 ?_
  refine srg fun N h2 => ?_
  refine stm rfl rfl rfl ?_
  refine stm rfl rfl rfl ?_
  refine st0 (hop_call0 (xs := [_, _, _]) (eqFunc_h a b ha hb) ⟨rfl, ⟨rfl, ⟨rfl, trivial⟩⟩⟩ ⟨(Fz.eq rfl), ⟨(Fz.eq rfl), ⟨(Fz.eq rfl), trivial⟩⟩⟩) rfl rfl ?_
  refine sta rfl rfl rfl ?_
  refine snl h2 ?_
  refine hw_ret ?_
  refine hq_ret1 rfl (rval_tmp rfl) [] rfl pre0 ?_
  exact Frz.fz
end Go.Proofs.YtmcchhmgchgaaaaDoor

namespace Go.Proofs.YtmcchhmgchgaaaaDoor
set_option linter.unusedSimpArgs false
set_option linter.unusedVariables false
set_option maxRecDepth 100000
open Go.RowKit

@[reducible] def namF : Nat → Nat → HV := fun i _ => strV (([[], [], [40], [41], [124]] : List (List UInt8)).getD i [])
theorem kind234 {x : Sg} (h1 : 1 < x.kind) (h2 : x.kind < 5) : (x.kind = 2 ∧ pieceL x = [40]) ∨ (x.kind = 3 ∧ pieceL x = [41]) ∨ (x.kind = 4 ∧ pieceL x = [124]) := by
  have : x.kind = 2 ∨ x.kind = 3 ∨ x.kind = 4 := by omega
  unfold pieceL
  rcases this with h | h | h
  · exact .inl ⟨h, by rw [h]; rfl⟩
  · exact .inr (.inl ⟨h, by rw [h]; rfl⟩)
  · exact .inr (.inr ⟨h, by rw [h]; rfl⟩)
theorem nam_piece {x : Sg} (h1 : 1 < x.kind) (h2 : x.kind < 5) : strV (([[], [], [40], [41], [124]] : List (List UInt8)).getD (0 + x.kind.toNat) []) = strV (pieceL x) := by
  rcases kind234 h1 h2 with ⟨h, e⟩ | ⟨h, e⟩ | ⟨h, e⟩ <;> rw [e, h] <;> rfl
theorem piece_short {x : Sg} (h1 : 1 < x.kind) (h2 : x.kind < 5) : (pieceL x).length ≤ 1 := by
  rcases kind234 h1 h2 with ⟨h, e⟩ | ⟨h, e⟩ | ⟨h, e⟩ <;> rw [e] <;> decide
theorem refShowSg_h (l : List Sg) (hl : l.length ≤ 1000) (hok : ∀ x ∈ l, SgOk x) : HPure Tryd.prog 46 [sgsV l] (strV (showL l)) := by
  refine hpure_of Tryd.func46 rfl (by kernel_rfl) _ _ _ rfl 60 rfl rfl (fun w F => ?_)
  refine srg fun N h1 => ?_
  refine sta rfl rfl rfl ?_
  refine snl h1 ?_
  refine srg fun N h2 => ?_
  refine hm_1 7 (hop_buildSlice (id := 7) (hs := [_, _, _, _, _]) ei_33 (by first | exact Nat.le_of_ble_eq_true rfl | omega | (dsimp only; omega) | (simp <;> omega)) rfl (by first | exact Nat.le_of_ble_eq_true rfl | omega | (dsimp only; omega) | (simp <;> omega)) ⟨rfl, rfl, rfl, rfl, ⟨rfl, rfl, rfl, rfl, ⟨rfl, rfl, rfl, rfl, ⟨rfl, rfl, rfl, rfl, ⟨rfl, rfl, rfl, rfl, trivial⟩⟩⟩⟩⟩) rfl rfl pre0 rfl rfl (c' := 1) rfl ?_
  refine sta rfl rfl rfl ?_
  refine snl h2 ?_
  refine srg fun N h3 => ?_
  refine sta rfl rfl rfl ?_
  refine snl h3 ?_
  refine hw_seq (fun Nh4 h4 => ?_)
  refine srg fun N h5 => ?_
  refine sta rfl rfl rfl ?_
  refine snl h5 ?_
  refine hw_block ?_
  refine hw_loopc (α := Nat × List UInt8) (fun x c => ⟨60, [(0, .v (sgsV l)), (3, .v (.os 7 0 0 5)), (4, .v (strV x.2)), (5, .v (intV x.1))], [(7, ⟨0, 5, 1, 9, 0, namF⟩)], c⟩) (fun x => x.1 ≤ l.length ∧ x.2.length ≤ 200 * x.1 ∧ x.2 ++ showG (decide (x.1 = 0)) (l.drop x.1) = showL l) (fun x => l.length - x.1) ((0, [])) (by exact ⟨Nat.zero_le _, Nat.zero_le _, rfl⟩) (hsub_of rfl (Nat.le_refl _) (TmSub.cons rfl (Sb.refl _) (TmSub.cons rfl (Sb.refl _) (TmSub.cons rfl (Sb.refl _) (TmSub.cons rfl (Sb.refl _) TmSub.nil)))) (HpSub.cons rfl (OSub.of fun i j hi hj => by match i, hi, j, hj with | 0, _, 0, _ => exact .refl _ | 1, _, 0, _ => exact .refl _ | 2, _, 0, _ => exact .refl _ | 3, _, 0, _ => exact .refl _ | 4, _, 0, _ => exact .refl _) HpSub.nil)) (fun x c hx NhL6 hL6 => ?_)
  revert hx hL6; obtain ⟨k, acc⟩ := x; intro hx hL6; dsimp only at hx hL6 ⊢
  obtain ⟨hk, hb, hL⟩ := hx
  refine hw_seq (fun Nh7 h7 => ?_)
  refine srg fun N h8 => ?_
  refine stm rfl rfl rfl ?_
  refine stm rfl rfl rfl ?_
  first
  | refine hq_ 10 (hop_len_sl (T := 76) rfl (elOf_spec el_76).1 rfl) rfl rfl pre0 rfl rfl ?_
  | refine hq_ 10 (hop_len_os (T := 76) rfl (elOf_spec el_76).1 rfl) rfl rfl pre0 rfl rfl ?_
  | refine hq_ 10 (hop_len_nil (T := 76) rfl (elOf_spec el_76).1 rfl) rfl rfl pre0 rfl rfl ?_
  refine st0 (hop_lss rfl rfl) rfl rfl ?_
  refine snl h8 ?_
  refine hw_cond _ rfl (fun hc0 => ?_) (fun hc0 => ?_)
  · have hr0 := hc0; (try simp only [hcs, Int.reduceToNat] at hc0)
    have hkl : k < l.length := (by omega); have hx := getD_ok hok hkl; have hnm := hx.name; have htl := times_len _ _ hx.low hx.high
    refine hw_skip ?_
    refine h7 _ ?_
    refine hw_seq (fun Nh9 h9 => ?_)
    refine hw_block ?_
    refine srg fun N h10 => ?_
    refine stm rfl rfl rfl ?_
    refine stm rfl rfl rfl ?_
    first
    | refine hq_ 16 (hop_ia_sl el_76 rfl rfl (by first | exact Nat.le_of_ble_eq_true rfl | omega | (dsimp only; omega) | (simp <;> omega)) (by first | exact Nat.le_of_ble_eq_true rfl | omega | (dsimp only; omega) | (simp <;> omega)) (by first | exact Nat.le_of_ble_eq_true rfl | omega | (dsimp only; omega) | (simp <;> omega))) rfl rfl pre0 rfl rfl ?_
    | refine hq_ 16 (hol_ia_os el_76 rfl rfl (by first | exact Nat.le_of_ble_eq_true rfl | omega | (dsimp only; omega) | (simp <;> omega)) (by first | exact Nat.le_of_ble_eq_true rfl | omega | (dsimp only; omega) | (simp <;> omega))) rfl rfl (pre1 rfl) rfl rfl ?_
    first
    | refine hq_ 17 (hol_load ty_80 rfl (by first | exact Nat.le_of_ble_eq_true rfl | omega | (dsimp only; omega) | (simp <;> omega)) (by first | exact Nat.le_of_ble_eq_true rfl | omega | (dsimp only; omega) | (simp <;> omega)) (fun h => (by first | rfl | cases h))) rfl rfl (pre1 rfl) rfl rfl ?_
    | refine hq_ 17 (hop_load_fp ty_80 rfl (by first | exact Nat.le_of_ble_eq_true rfl | omega | (dsimp only; omega) | (simp <;> omega)) (fun h => (by first | rfl | cases h))) rfl rfl pre0 rfl rfl ?_
    refine hm_1 6 (hop_alloc (id := 6) (sz := 5) zc_80 rfl rfl (by first | exact Nat.le_of_ble_eq_true rfl | omega | (dsimp only; omega) | (simp <;> omega)) (by first | exact Nat.le_of_ble_eq_true rfl | omega | (dsimp only; omega) | (simp <;> omega))) rfl rfl pre0 rfl rfl (c' := c + 1) rfl ?_
    first
    | refine hm_s1 (hol_storeW ty_80 rfl rfl rfl rfl) rfl rfl (pre1 rfl) (c' := c + 2) rfl ?_
    | refine hm_s1 (hol_store ty_80 rfl rfl rfl rfl (by first | exact Nat.le_of_ble_eq_true rfl | omega | (dsimp only; omega) | (simp <;> omega)) (by first | exact Nat.le_of_ble_eq_true rfl | omega | (dsimp only; omega) | (simp <;> omega)) (by first | exact Nat.le_of_ble_eq_true rfl | omega | (dsimp only; omega) | (simp <;> omega))) rfl rfl (pre1 rfl) (c' := c + 2) rfl ?_
    refine snl h10 ?_
    refine hw_seq (fun Nh11 h11 => ?_)
    refine srg fun N h12 => ?_
    refine stm rfl rfl rfl ?_
    refine st0 (hop_gtr rfl rfl) rfl rfl ?_
    refine stm rfl rfl rfl ?_
    first
    | refine stg 20 (fun hb => hop_fa fd_80_0 rfl) rfl rfl rfl rfl rfl ?_
    | refine sth 20 (fun hb => hop_fa fd_80_0 rfl) rfl rfl rfl rfl rfl ?_
    | refine stg 20 (fun hb => hop_fa_fp fd_80_0 rfl (by first | exact Nat.le_of_ble_eq_true rfl | (simp at hb; first | omega | (dsimp only; omega) | (simp <;> omega)))) rfl rfl rfl rfl rfl ?_
    | refine sth 20 (fun hb => hop_fa_fp fd_80_0 rfl (by first | exact Nat.le_of_ble_eq_true rfl | (simp at hb; first | omega | (dsimp only; omega) | (simp <;> omega)))) rfl rfl rfl rfl rfl ?_
    first
    | refine hq_g 22 2 20 true _ (fun hb => hol_load ty_3 rfl (by first | exact Nat.le_of_ble_eq_true rfl | (simp at hb; first | omega | (dsimp only; omega) | (simp <;> omega))) (by first | exact Nat.le_of_ble_eq_true rfl | (simp at hb; first | omega | (dsimp only; omega) | (simp <;> omega))) (fun h => (by first | rfl | cases h))) rfl rfl rfl rfl (pre1 rfl) rfl rfl rfl ?_
    | refine hq_g2 22 2 20 _ _ true _ (fun hb => hol_load ty_3 rfl (by first | exact Nat.le_of_ble_eq_true rfl | (simp at hb; first | omega | (dsimp only; omega) | (simp <;> omega))) (by first | exact Nat.le_of_ble_eq_true rfl | (simp at hb; first | omega | (dsimp only; omega) | (simp <;> omega))) (fun h => (by first | rfl | cases h))) rfl rfl rfl rfl (pre1 rfl) rfl rfl rfl ?_
    | refine stg 20 (fun hb => hop_load_fp ty_3 rfl (by first | exact Nat.le_of_ble_eq_true rfl | (simp at hb; first | omega | (dsimp only; omega) | (simp <;> omega))) (fun h => (by first | rfl | cases h))) rfl rfl rfl rfl rfl ?_
    | refine sth 20 (fun hb => hop_load_fp ty_3 rfl (by first | exact Nat.le_of_ble_eq_true rfl | (simp at hb; first | omega | (dsimp only; omega) | (simp <;> omega))) (fun h => (by first | rfl | cases h))) rfl rfl rfl rfl rfl ?_
    first
    | refine stg 20 (fun hb => hop_neq rfl rfl) rfl rfl rfl rfl rfl ?_
    | refine sth 20 (fun hb => hop_neq rfl rfl) rfl rfl rfl rfl rfl ?_
    first
    | refine hq_p 24 (hstep_and _ _ rfl rfl rfl) rfl rfl rfl ?_
    | refine hq_p 24 (hstep_or _ _ rfl rfl rfl) rfl rfl rfl ?_
    | refine hq_p 24 (hstep_ite _ _ _ rfl rfl rfl) rfl rfl rfl ?_
    | refine hq_p 24 (hstep_pick _ _ _ _ rfl rfl rfl (fun _ => .refl _) (fun _ => .refl _)) rfl rfl rfl ?_
    refine hseq_nilU (by rfl) (by simp only [dropUn, slots]; exact rfl) ?_
    refine h12 _ ?_
    refine hw_cond _ rfl (fun hc1 => ?_) (fun hc1 => ?_)
    · have hr1 := hc1; (try simp only [hcs, Int.reduceToNat] at hc1)
      have ha1 : (acc ++ [32]).length = acc.length + 1 := List.length_append; have hsep : sepL (decide (k = 0)) (l.getD k default) = [32] := (by unfold sepL; rw [if_pos ⟨decide_eq_false (by omega), hc1.2⟩])
      refine hw_region ?_
      refine stm rfl rfl rfl ?_
      refine st0 (hop_catl rfl rfl (by first | exact Nat.le_of_ble_eq_true rfl | omega | (dsimp only; omega) | (simp <;> omega))) rfl rfl ?_
      refine sta rfl rfl rfl ?_
      refine snl h11 ?_
      refine hw_seq (fun Nh13 h13 => ?_)
      refine srg fun N h14 => ?_
      first
      | refine hq_ 27 (hop_fa fd_80_0 rfl) rfl rfl pre0 rfl rfl ?_
      | refine hq_ 27 (hop_fa_fp fd_80_0 rfl (by first | exact Nat.le_of_ble_eq_true rfl | omega | (dsimp only; omega) | (simp <;> omega))) rfl rfl pre0 rfl rfl ?_
      first
      | refine hq_ 28 (HOp.val (v' := intV (l.getD k default).kind) (hol_load ty_3 rfl (by first | exact Nat.le_of_ble_eq_true rfl | omega | (dsimp only; omega) | (simp <;> omega)) (by first | exact Nat.le_of_ble_eq_true rfl | omega | (dsimp only; omega) | (simp <;> omega)) (fun h => (by first | rfl | cases h))) (rfl)) rfl rfl (pre1 rfl) rfl rfl ?_
      | refine hq_ 28 (HOp.val (v' := intV (l.getD k default).kind) (hop_load_fp ty_3 rfl (by first | exact Nat.le_of_ble_eq_true rfl | omega | (dsimp only; omega) | (simp <;> omega)) (fun h => (by first | rfl | cases h))) (rfl)) rfl rfl pre0 rfl rfl ?_
      refine st0 (hop_eql rfl rfl) rfl rfl ?_
      refine snl h14 ?_
      refine hw_cond _ rfl (fun hc2 => ?_) (fun hc2 => ?_)
      · have hr2 := hc2; (try simp only [hcs, Int.reduceToNat] at hc2)
        refine hw_region ?_
        refine stm rfl rfl rfl ?_
        first
        | refine hq_ 31 (hop_fa fd_80_4 rfl) rfl rfl pre0 rfl rfl ?_
        | refine hq_ 31 (hop_fa_fp fd_80_4 rfl (by first | exact Nat.le_of_ble_eq_true rfl | omega | (dsimp only; omega) | (simp <;> omega))) rfl rfl pre0 rfl rfl ?_
        first
        | refine hq_ 32 (HOp.val (v' := strV (l.getD k default).name) (hol_load ty_9 rfl (by first | exact Nat.le_of_ble_eq_true rfl | omega | (dsimp only; omega) | (simp <;> omega)) (by first | exact Nat.le_of_ble_eq_true rfl | omega | (dsimp only; omega) | (simp <;> omega)) (fun h => (by first | rfl | cases h))) (rfl)) rfl rfl (pre1 rfl) rfl rfl ?_
        | refine hq_ 32 (HOp.val (v' := strV (l.getD k default).name) (hop_load_fp ty_9 rfl (by first | exact Nat.le_of_ble_eq_true rfl | omega | (dsimp only; omega) | (simp <;> omega)) (fun h => (by first | rfl | cases h))) (rfl)) rfl rfl pre0 rfl rfl ?_
        refine st0 (hop_catl rfl rfl (by first | exact Nat.le_of_ble_eq_true rfl | omega | (dsimp only; omega) | (simp <;> omega))) rfl rfl ?_
        refine sta rfl rfl rfl ?_
        refine snl h13 ?_
        refine hw_seq (fun Nh15 h15 => ?_)
        refine srg fun N h16 => ?_
        first
        | refine hq_ 34 (hop_fa fd_80_0 rfl) rfl rfl pre0 rfl rfl ?_
        | refine hq_ 34 (hop_fa_fp fd_80_0 rfl (by first | exact Nat.le_of_ble_eq_true rfl | omega | (dsimp only; omega) | (simp <;> omega))) rfl rfl pre0 rfl rfl ?_
        first
        | refine hq_ 35 (HOp.val (v' := intV (l.getD k default).kind) (hol_load ty_3 rfl (by first | exact Nat.le_of_ble_eq_true rfl | omega | (dsimp only; omega) | (simp <;> omega)) (by first | exact Nat.le_of_ble_eq_true rfl | omega | (dsimp only; omega) | (simp <;> omega)) (fun h => (by first | rfl | cases h))) (rfl)) rfl rfl (pre1 rfl) rfl rfl ?_
        | refine hq_ 35 (HOp.val (v' := intV (l.getD k default).kind) (hop_load_fp ty_3 rfl (by first | exact Nat.le_of_ble_eq_true rfl | omega | (dsimp only; omega) | (simp <;> omega)) (fun h => (by first | rfl | cases h))) (rfl)) rfl rfl pre0 rfl rfl ?_
        refine st0 (hop_gtr rfl rfl) rfl rfl ?_
        refine stm rfl rfl rfl ?_
        first
        | refine stg 37 (fun hb => hop_fa fd_80_0 rfl) rfl rfl rfl rfl rfl ?_
        | refine sth 37 (fun hb => hop_fa fd_80_0 rfl) rfl rfl rfl rfl rfl ?_
        | refine stg 37 (fun hb => hop_fa_fp fd_80_0 rfl (by first | exact Nat.le_of_ble_eq_true rfl | (simp at hb; first | omega | (dsimp only; omega) | (simp <;> omega)))) rfl rfl rfl rfl rfl ?_
        | refine sth 37 (fun hb => hop_fa_fp fd_80_0 rfl (by first | exact Nat.le_of_ble_eq_true rfl | (simp at hb; first | omega | (dsimp only; omega) | (simp <;> omega)))) rfl rfl rfl rfl rfl ?_
        first
        | refine hq_g 39 3 37 true _ (fun hb => HOp.val (v' := intV (l.getD k default).kind) (hol_load ty_3 rfl (by first | exact Nat.le_of_ble_eq_true rfl | (simp at hb; first | omega | (dsimp only; omega) | (simp <;> omega))) (by first | exact Nat.le_of_ble_eq_true rfl | (simp at hb; first | omega | (dsimp only; omega) | (simp <;> omega))) (fun h => (by first | rfl | cases h))) (rfl)) rfl rfl rfl rfl (pre1 rfl) rfl rfl rfl ?_
        | refine hq_g2 39 3 37 _ _ true _ (fun hb => HOp.val (v' := intV (l.getD k default).kind) (hol_load ty_3 rfl (by first | exact Nat.le_of_ble_eq_true rfl | (simp at hb; first | omega | (dsimp only; omega) | (simp <;> omega))) (by first | exact Nat.le_of_ble_eq_true rfl | (simp at hb; first | omega | (dsimp only; omega) | (simp <;> omega))) (fun h => (by first | rfl | cases h))) (rfl)) rfl rfl rfl rfl (pre1 rfl) rfl rfl rfl ?_
        | refine stg 37 (fun hb => HOp.val (v' := intV (l.getD k default).kind) (hop_load_fp ty_3 rfl (by first | exact Nat.le_of_ble_eq_true rfl | (simp at hb; first | omega | (dsimp only; omega) | (simp <;> omega))) (fun h => (by first | rfl | cases h))) (rfl)) rfl rfl rfl rfl rfl ?_
        | refine sth 37 (fun hb => HOp.val (v' := intV (l.getD k default).kind) (hop_load_fp ty_3 rfl (by first | exact Nat.le_of_ble_eq_true rfl | (simp at hb; first | omega | (dsimp only; omega) | (simp <;> omega))) (fun h => (by first | rfl | cases h))) (rfl)) rfl rfl rfl rfl rfl ?_
        first
        | refine stg 37 (fun hb => hop_lss rfl rfl) rfl rfl rfl rfl rfl ?_
        | refine sth 37 (fun hb => hop_lss rfl rfl) rfl rfl rfl rfl rfl ?_
        first
        | refine hq_p 41 (hstep_and _ _ rfl rfl rfl) rfl rfl rfl ?_
        | refine hq_p 41 (hstep_or _ _ rfl rfl rfl) rfl rfl rfl ?_
        | refine hq_p 41 (hstep_ite _ _ _ rfl rfl rfl) rfl rfl rfl ?_
        | refine hq_p 41 (hstep_pick _ _ _ _ rfl rfl rfl (fun _ => .refl _) (fun _ => .refl _)) rfl rfl rfl ?_
        refine hseq_nilU (by rfl) (by simp only [dropUn, slots]; exact rfl) ?_
        refine h16 _ ?_
        refine hw_cond _ rfl (fun hc3 => ?_) (fun hc3 => ?_)
        · have hr3 := hc3; (try simp only [hcs, Int.reduceToNat] at hc3)
          exfalso; omega
        have hr3 := hc3; (try simp only [hcs, Int.reduceToNat] at hc3)
        refine hw_skip ?_
        refine h15 _ ?_
        refine srg fun N h17 => ?_
        first
        | refine hq_ 49 (hop_fa fd_80_0 rfl) rfl rfl pre0 rfl rfl ?_
        | refine hq_ 49 (hop_fa_fp fd_80_0 rfl (by first | exact Nat.le_of_ble_eq_true rfl | omega | (dsimp only; omega) | (simp <;> omega))) rfl rfl pre0 rfl rfl ?_
        first
        | refine hq_ 50 (HOp.val (v' := intV (l.getD k default).kind) (hol_load ty_3 rfl (by first | exact Nat.le_of_ble_eq_true rfl | omega | (dsimp only; omega) | (simp <;> omega)) (by first | exact Nat.le_of_ble_eq_true rfl | omega | (dsimp only; omega) | (simp <;> omega)) (fun h => (by first | rfl | cases h))) (rfl)) rfl rfl (pre1 rfl) rfl rfl ?_
        | refine hq_ 50 (HOp.val (v' := intV (l.getD k default).kind) (hop_load_fp ty_3 rfl (by first | exact Nat.le_of_ble_eq_true rfl | omega | (dsimp only; omega) | (simp <;> omega)) (fun h => (by first | rfl | cases h))) (rfl)) rfl rfl pre0 rfl rfl ?_
        refine st0 (hop_eql rfl rfl) rfl rfl ?_
        refine snl h17 ?_
        refine hw_cond _ rfl (fun hc4 => ?_) (fun hc4 => ?_)
        · have hr4 := hc4; (try simp only [hcs, Int.reduceToNat] at hc4)
          exfalso; omega
        have hr4 := hc4; (try simp only [hcs, Int.reduceToNat] at hc4)
        refine hw_skip ?_
        refine hq_block ?_
        refine h9 _ ?_
        refine hw_region ?_
        refine stm rfl rfl rfl ?_
        first
        | refine hq_ 13 (hop_addi rfl rfl rfl (by first | exact Nat.le_of_ble_eq_true rfl | omega | (dsimp only; omega) | (simp <;> omega)) (by first | exact Nat.le_of_ble_eq_true rfl | omega | (dsimp only; omega) | (simp <;> omega))) rfl rfl pre0 rfl rfl ?_
        | refine hq_ 13 (hop_add rfl rfl) rfl rfl pre0 rfl rfl ?_
        refine sta rfl rfl rfl ?_
        refine hseq_nil ?_
        exact hL6 ((k + 1, (acc ++ [32]) ++ (l.getD k default).name)) _ _ (by (try dsimp only); exact ⟨by omega, by (try simp only [List.length_append, List.length_cons, List.length_nil]); omega, by have h := show_next (p := (l.getD k default).name) hkl hL hsep (if_pos hc2); simpa only [List.append_nil, List.append_assoc] using h⟩) (by (try dsimp only); omega) (hsub_of rfl (Nat.le_refl _) (TmSub.cons rfl (Sb.refl _) (TmSub.cons rfl (Sb.refl _) (TmSub.cons rfl (Sb.refl _) (TmSub.cons rfl (Sb.refl _) TmSub.nil)))) (HpSub.cons rfl (OSub.refl _) HpSub.nil))
      have hr2 := hc2; (try simp only [hcs, Int.reduceToNat] at hc2)
      refine hw_skip ?_
      refine h13 _ ?_
      refine hw_seq (fun Nh18 h18 => ?_)
      refine srg fun N h19 => ?_
      first
      | refine hq_ 34 (hop_fa fd_80_0 rfl) rfl rfl pre0 rfl rfl ?_
      | refine hq_ 34 (hop_fa_fp fd_80_0 rfl (by first | exact Nat.le_of_ble_eq_true rfl | omega | (dsimp only; omega) | (simp <;> omega))) rfl rfl pre0 rfl rfl ?_
      first
      | refine hq_ 35 (HOp.val (v' := intV (l.getD k default).kind) (hol_load ty_3 rfl (by first | exact Nat.le_of_ble_eq_true rfl | omega | (dsimp only; omega) | (simp <;> omega)) (by first | exact Nat.le_of_ble_eq_true rfl | omega | (dsimp only; omega) | (simp <;> omega)) (fun h => (by first | rfl | cases h))) (rfl)) rfl rfl (pre1 rfl) rfl rfl ?_
      | refine hq_ 35 (HOp.val (v' := intV (l.getD k default).kind) (hop_load_fp ty_3 rfl (by first | exact Nat.le_of_ble_eq_true rfl | omega | (dsimp only; omega) | (simp <;> omega)) (fun h => (by first | rfl | cases h))) (rfl)) rfl rfl pre0 rfl rfl ?_
      refine st0 (hop_gtr rfl rfl) rfl rfl ?_
      refine stm rfl rfl rfl ?_
      first
      | refine stg 37 (fun hb => hop_fa fd_80_0 rfl) rfl rfl rfl rfl rfl ?_
      | refine sth 37 (fun hb => hop_fa fd_80_0 rfl) rfl rfl rfl rfl rfl ?_
      | refine stg 37 (fun hb => hop_fa_fp fd_80_0 rfl (by first | exact Nat.le_of_ble_eq_true rfl | (simp at hb; first | omega | (dsimp only; omega) | (simp <;> omega)))) rfl rfl rfl rfl rfl ?_
      | refine sth 37 (fun hb => hop_fa_fp fd_80_0 rfl (by first | exact Nat.le_of_ble_eq_true rfl | (simp at hb; first | omega | (dsimp only; omega) | (simp <;> omega)))) rfl rfl rfl rfl rfl ?_
      first
      | refine hq_g 39 3 37 true _ (fun hb => HOp.val (v' := intV (l.getD k default).kind) (hol_load ty_3 rfl (by first | exact Nat.le_of_ble_eq_true rfl | (simp at hb; first | omega | (dsimp only; omega) | (simp <;> omega))) (by first | exact Nat.le_of_ble_eq_true rfl | (simp at hb; first | omega | (dsimp only; omega) | (simp <;> omega))) (fun h => (by first | rfl | cases h))) (rfl)) rfl rfl rfl rfl (pre1 rfl) rfl rfl rfl ?_
      | refine hq_g2 39 3 37 _ _ true _ (fun hb => HOp.val (v' := intV (l.getD k default).kind) (hol_load ty_3 rfl (by first | exact Nat.le_of_ble_eq_true rfl | (simp at hb; first | omega | (dsimp only; omega) | (simp <;> omega))) (by first | exact Nat.le_of_ble_eq_true rfl | (simp at hb; first | omega | (dsimp only; omega) | (simp <;> omega))) (fun h => (by first | rfl | cases h))) (rfl)) rfl rfl rfl rfl (pre1 rfl) rfl rfl rfl ?_
      | refine stg 37 (fun hb => HOp.val (v' := intV (l.getD k default).kind) (hop_load_fp ty_3 rfl (by first | exact Nat.le_of_ble_eq_true rfl | (simp at hb; first | omega | (dsimp only; omega) | (simp <;> omega))) (fun h => (by first | rfl | cases h))) (rfl)) rfl rfl rfl rfl rfl ?_
      | refine sth 37 (fun hb => HOp.val (v' := intV (l.getD k default).kind) (hop_load_fp ty_3 rfl (by first | exact Nat.le_of_ble_eq_true rfl | (simp at hb; first | omega | (dsimp only; omega) | (simp <;> omega))) (fun h => (by first | rfl | cases h))) (rfl)) rfl rfl rfl rfl rfl ?_
      first
      | refine stg 37 (fun hb => hop_lss rfl rfl) rfl rfl rfl rfl rfl ?_
      | refine sth 37 (fun hb => hop_lss rfl rfl) rfl rfl rfl rfl rfl ?_
      first
      | refine hq_p 41 (hstep_and _ _ rfl rfl rfl) rfl rfl rfl ?_
      | refine hq_p 41 (hstep_or _ _ rfl rfl rfl) rfl rfl rfl ?_
      | refine hq_p 41 (hstep_ite _ _ _ rfl rfl rfl) rfl rfl rfl ?_
      | refine hq_p 41 (hstep_pick _ _ _ _ rfl rfl rfl (fun _ => .refl _) (fun _ => .refl _)) rfl rfl rfl ?_
      refine hseq_nilU (by rfl) (by simp only [dropUn, slots]; exact rfl) ?_
      refine h19 _ ?_
      refine hw_cond _ rfl (fun hc3 => ?_) (fun hc3 => ?_)
      · have hr3 := hc3; (try simp only [hcs, Int.reduceToNat] at hc3)
        have hpl : (pieceL (l.getD k default)).length ≤ 1 := piece_short hc3.1 hc3.2
        refine hw_region ?_
        refine stm rfl rfl rfl ?_
        refine stm rfl rfl rfl ?_
        first
        | refine hq_ 44 (hop_fa fd_80_0 rfl) rfl rfl pre0 rfl rfl ?_
        | refine hq_ 44 (hop_fa_fp fd_80_0 rfl (by first | exact Nat.le_of_ble_eq_true rfl | omega | (dsimp only; omega) | (simp <;> omega))) rfl rfl pre0 rfl rfl ?_
        first
        | refine hq_ 45 (HOp.val (v' := intV (l.getD k default).kind) (hol_load ty_3 rfl (by first | exact Nat.le_of_ble_eq_true rfl | omega | (dsimp only; omega) | (simp <;> omega)) (by first | exact Nat.le_of_ble_eq_true rfl | omega | (dsimp only; omega) | (simp <;> omega)) (fun h => (by first | rfl | cases h))) (rfl)) rfl rfl (pre1 rfl) rfl rfl ?_
        | refine hq_ 45 (HOp.val (v' := intV (l.getD k default).kind) (hop_load_fp ty_3 rfl (by first | exact Nat.le_of_ble_eq_true rfl | omega | (dsimp only; omega) | (simp <;> omega)) (fun h => (by first | rfl | cases h))) (rfl)) rfl rfl pre0 rfl rfl ?_
        first
        | refine hq_ 46 (hop_ia_sl el_33 rfl rfl (by first | exact Nat.le_of_ble_eq_true rfl | omega | (dsimp only; omega) | (simp <;> omega)) (by first | exact Nat.le_of_ble_eq_true rfl | omega | (dsimp only; omega) | (simp <;> omega)) (by first | exact Nat.le_of_ble_eq_true rfl | omega | (dsimp only; omega) | (simp <;> omega))) rfl rfl pre0 rfl rfl ?_
        | refine hq_ 46 (hol_ia_os el_33 rfl rfl (by first | exact Nat.le_of_ble_eq_true rfl | omega | (dsimp only; omega) | (simp <;> omega)) (by first | exact Nat.le_of_ble_eq_true rfl | omega | (dsimp only; omega) | (simp <;> omega))) rfl rfl (pre1 rfl) rfl rfl ?_
        first
        | refine hq_ 47 (HOp.val (v' := strV (pieceL (l.getD k default))) (hol_load ty_9 rfl (by first | exact Nat.le_of_ble_eq_true rfl | omega | (dsimp only; omega) | (simp <;> omega)) (by first | exact Nat.le_of_ble_eq_true rfl | omega | (dsimp only; omega) | (simp <;> omega)) (fun h => (by first | rfl | cases h))) ((by exact nam_piece hc3.1 hc3.2))) rfl rfl (pre1 rfl) rfl rfl ?_
        | refine hq_ 47 (HOp.val (v' := strV (pieceL (l.getD k default))) (hop_load_fp ty_9 rfl (by first | exact Nat.le_of_ble_eq_true rfl | omega | (dsimp only; omega) | (simp <;> omega)) (fun h => (by first | rfl | cases h))) ((by exact nam_piece hc3.1 hc3.2))) rfl rfl pre0 rfl rfl ?_
        refine st0 (hop_catl rfl rfl (by first | exact Nat.le_of_ble_eq_true rfl | omega | (dsimp only; omega) | (simp <;> omega))) rfl rfl ?_
        refine sta rfl rfl rfl ?_
        refine snl h18 ?_
        refine srg fun N h20 => ?_
        first
        | refine hq_ 49 (hop_fa fd_80_0 rfl) rfl rfl pre0 rfl rfl ?_
        | refine hq_ 49 (hop_fa_fp fd_80_0 rfl (by first | exact Nat.le_of_ble_eq_true rfl | omega | (dsimp only; omega) | (simp <;> omega))) rfl rfl pre0 rfl rfl ?_
        first
        | refine hq_ 50 (HOp.val (v' := intV (l.getD k default).kind) (hol_load ty_3 rfl (by first | exact Nat.le_of_ble_eq_true rfl | omega | (dsimp only; omega) | (simp <;> omega)) (by first | exact Nat.le_of_ble_eq_true rfl | omega | (dsimp only; omega) | (simp <;> omega)) (fun h => (by first | rfl | cases h))) (rfl)) rfl rfl (pre1 rfl) rfl rfl ?_
        | refine hq_ 50 (HOp.val (v' := intV (l.getD k default).kind) (hop_load_fp ty_3 rfl (by first | exact Nat.le_of_ble_eq_true rfl | omega | (dsimp only; omega) | (simp <;> omega)) (fun h => (by first | rfl | cases h))) (rfl)) rfl rfl pre0 rfl rfl ?_
        refine st0 (hop_eql rfl rfl) rfl rfl ?_
        refine snl h20 ?_
        refine hw_cond _ rfl (fun hc4 => ?_) (fun hc4 => ?_)
        · have hr4 := hc4; (try simp only [hcs, Int.reduceToNat] at hc4)
          exfalso; omega
        have hr4 := hc4; (try simp only [hcs, Int.reduceToNat] at hc4)
        refine hw_skip ?_
        refine hq_block ?_
        refine h9 _ ?_
        refine hw_region ?_
        refine stm rfl rfl rfl ?_
        first
        | refine hq_ 13 (hop_addi rfl rfl rfl (by first | exact Nat.le_of_ble_eq_true rfl | omega | (dsimp only; omega) | (simp <;> omega)) (by first | exact Nat.le_of_ble_eq_true rfl | omega | (dsimp only; omega) | (simp <;> omega))) rfl rfl pre0 rfl rfl ?_
        | refine hq_ 13 (hop_add rfl rfl) rfl rfl pre0 rfl rfl ?_
        refine sta rfl rfl rfl ?_
        refine hseq_nil ?_
        exact hL6 ((k + 1, (acc ++ [32]) ++ pieceL (l.getD k default))) _ _ (by (try dsimp only); exact ⟨by omega, by (try simp only [List.length_append, List.length_cons, List.length_nil]); omega, by have h := show_next (p := pieceL (l.getD k default)) hkl hL hsep (rfl); simpa only [List.append_nil, List.append_assoc] using h⟩) (by (try dsimp only); omega) (hsub_of rfl (Nat.le_refl _) (TmSub.cons rfl (Sb.refl _) (TmSub.cons rfl (Sb.refl _) (TmSub.cons rfl (Sb.refl _) (TmSub.cons rfl (Sb.refl _) TmSub.nil)))) (HpSub.cons rfl (OSub.refl _) HpSub.nil))
      have hr3 := hc3; (try simp only [hcs, Int.reduceToNat] at hc3)
      refine hw_skip ?_
      refine h18 _ ?_
      refine srg fun N h21 => ?_
      first
      | refine hq_ 49 (hop_fa fd_80_0 rfl) rfl rfl pre0 rfl rfl ?_
      | refine hq_ 49 (hop_fa_fp fd_80_0 rfl (by first | exact Nat.le_of_ble_eq_true rfl | omega | (dsimp only; omega) | (simp <;> omega))) rfl rfl pre0 rfl rfl ?_
      first
      | refine hq_ 50 (HOp.val (v' := intV (l.getD k default).kind) (hol_load ty_3 rfl (by first | exact Nat.le_of_ble_eq_true rfl | omega | (dsimp only; omega) | (simp <;> omega)) (by first | exact Nat.le_of_ble_eq_true rfl | omega | (dsimp only; omega) | (simp <;> omega)) (fun h => (by first | rfl | cases h))) (rfl)) rfl rfl (pre1 rfl) rfl rfl ?_
      | refine hq_ 50 (HOp.val (v' := intV (l.getD k default).kind) (hop_load_fp ty_3 rfl (by first | exact Nat.le_of_ble_eq_true rfl | omega | (dsimp only; omega) | (simp <;> omega)) (fun h => (by first | rfl | cases h))) (rfl)) rfl rfl pre0 rfl rfl ?_
      refine st0 (hop_eql rfl rfl) rfl rfl ?_
      refine snl h21 ?_
      refine hw_cond _ rfl (fun hc4 => ?_) (fun hc4 => ?_)
      · have hr4 := hc4; (try simp only [hcs, Int.reduceToNat] at hc4)
        refine hw_region ?_
        refine stm rfl rfl rfl ?_
        first
        | refine hq_ 53 (hop_fa fd_80_2 rfl) rfl rfl pre0 rfl rfl ?_
        | refine hq_ 53 (hop_fa_fp fd_80_2 rfl (by first | exact Nat.le_of_ble_eq_true rfl | omega | (dsimp only; omega) | (simp <;> omega))) rfl rfl pre0 rfl rfl ?_
        first
        | refine hq_ 54 (HOp.val (v' := intV (l.getD k default).low) (hol_load ty_3 rfl (by first | exact Nat.le_of_ble_eq_true rfl | omega | (dsimp only; omega) | (simp <;> omega)) (by first | exact Nat.le_of_ble_eq_true rfl | omega | (dsimp only; omega) | (simp <;> omega)) (fun h => (by first | rfl | cases h))) (rfl)) rfl rfl (pre1 rfl) rfl rfl ?_
        | refine hq_ 54 (HOp.val (v' := intV (l.getD k default).low) (hop_load_fp ty_3 rfl (by first | exact Nat.le_of_ble_eq_true rfl | omega | (dsimp only; omega) | (simp <;> omega)) (fun h => (by first | rfl | cases h))) (rfl)) rfl rfl pre0 rfl rfl ?_
        first
        | refine hq_ 55 (hop_fa fd_80_3 rfl) rfl rfl pre0 rfl rfl ?_
        | refine hq_ 55 (hop_fa_fp fd_80_3 rfl (by first | exact Nat.le_of_ble_eq_true rfl | omega | (dsimp only; omega) | (simp <;> omega))) rfl rfl pre0 rfl rfl ?_
        first
        | refine hq_ 56 (HOp.val (v' := intV (l.getD k default).high) (hol_load ty_3 rfl (by first | exact Nat.le_of_ble_eq_true rfl | omega | (dsimp only; omega) | (simp <;> omega)) (by first | exact Nat.le_of_ble_eq_true rfl | omega | (dsimp only; omega) | (simp <;> omega)) (fun h => (by first | rfl | cases h))) (rfl)) rfl rfl (pre1 rfl) rfl rfl ?_
        | refine hq_ 56 (HOp.val (v' := intV (l.getD k default).high) (hop_load_fp ty_3 rfl (by first | exact Nat.le_of_ble_eq_true rfl | omega | (dsimp only; omega) | (simp <;> omega)) (fun h => (by first | rfl | cases h))) (rfl)) rfl rfl pre0 rfl rfl ?_
        refine st0 (hop_call0 (xs := [_, _]) (refTimes_h _ _ hx.low hx.high) ⟨rfl, ⟨rfl, trivial⟩⟩ ⟨(Fz.eq rfl), ⟨(Fz.eq rfl), trivial⟩⟩) rfl rfl ?_
        refine st0 (hop_catl rfl rfl (by first | exact Nat.le_of_ble_eq_true rfl | omega | (dsimp only; omega) | (simp <;> omega))) rfl rfl ?_
        refine sta rfl rfl rfl ?_
        refine hseq_nil ?_
        refine hq_block ?_
        refine h9 _ ?_
        refine hw_region ?_
        refine stm rfl rfl rfl ?_
        first
        | refine hq_ 13 (hop_addi rfl rfl rfl (by first | exact Nat.le_of_ble_eq_true rfl | omega | (dsimp only; omega) | (simp <;> omega)) (by first | exact Nat.le_of_ble_eq_true rfl | omega | (dsimp only; omega) | (simp <;> omega))) rfl rfl pre0 rfl rfl ?_
        | refine hq_ 13 (hop_add rfl rfl) rfl rfl pre0 rfl rfl ?_
        refine sta rfl rfl rfl ?_
        refine hseq_nil ?_
        exact hL6 ((k + 1, (acc ++ [32]) ++ timesL (l.getD k default).low (l.getD k default).high)) _ _ (by (try dsimp only); exact ⟨by omega, by (try simp only [List.length_append, List.length_cons, List.length_nil]); omega, by have h := show_next (p := timesL (l.getD k default).low (l.getD k default).high) hkl hL hsep (by unfold pieceL; rw [if_neg hc2, if_neg (fun h => by have h3 := hr3; rw [h] at h3; simp at h3), if_neg (fun h => by have h3 := hr3; rw [h] at h3; simp at h3), if_neg (fun h => by have h3 := hr3; rw [h] at h3; simp at h3), if_pos hc4]); simpa only [List.append_nil, List.append_assoc] using h⟩) (by (try dsimp only); omega) (hsub_of rfl (Nat.le_refl _) (TmSub.cons rfl (Sb.refl _) (TmSub.cons rfl (Sb.refl _) (TmSub.cons rfl (Sb.refl _) (TmSub.cons rfl (Sb.refl _) TmSub.nil)))) (HpSub.cons rfl (OSub.refl _) HpSub.nil))
      have hr4 := hc4; (try simp only [hcs, Int.reduceToNat] at hc4)
      refine hw_skip ?_
      refine hq_block ?_
      refine h9 _ ?_
      refine hw_region ?_
      refine stm rfl rfl rfl ?_
      first
      | refine hq_ 13 (hop_addi rfl rfl rfl (by first | exact Nat.le_of_ble_eq_true rfl | omega | (dsimp only; omega) | (simp <;> omega)) (by first | exact Nat.le_of_ble_eq_true rfl | omega | (dsimp only; omega) | (simp <;> omega))) rfl rfl pre0 rfl rfl ?_
      | refine hq_ 13 (hop_add rfl rfl) rfl rfl pre0 rfl rfl ?_
      refine sta rfl rfl rfl ?_
      refine hseq_nil ?_
      exact hL6 ((k + 1, acc ++ [32])) _ _ (by (try dsimp only); exact ⟨by omega, by (try simp only [List.length_append, List.length_cons, List.length_nil]); omega, by have h := show_next (p := []) hkl hL hsep (by unfold pieceL; rw [if_neg hc2, if_neg (fun h => by have h3 := hr3; rw [h] at h3; simp at h3), if_neg (fun h => by have h3 := hr3; rw [h] at h3; simp at h3), if_neg (fun h => by have h3 := hr3; rw [h] at h3; simp at h3), if_neg hc4]); simpa only [List.append_nil, List.append_assoc] using h⟩) (by (try dsimp only); omega) (hsub_of rfl (Nat.le_refl _) (TmSub.cons rfl (Sb.refl _) (TmSub.cons rfl (Sb.refl _) (TmSub.cons rfl (Sb.refl _) (TmSub.cons rfl (Sb.refl _) TmSub.nil)))) (HpSub.cons rfl (OSub.refl _) HpSub.nil))
    have hr1 := hc1; (try simp only [hcs, Int.reduceToNat] at hc1)
    have hsep : sepL (decide (k = 0)) (l.getD k default) = [] := (by unfold sepL; rw [if_neg (fun h => by have h1 := of_decide_eq_false h.1; have h2 := hr1; rw [show decide ((0 : Int) < (k : Int)) = true from decide_eq_true (by omega), Bool.true_and] at h2; simp only [bne_eq_false_iff_eq] at h2; exact h.2 h2)])
    refine hw_skip ?_
    refine h11 _ ?_
    refine hw_seq (fun Nh22 h22 => ?_)
    refine srg fun N h23 => ?_
    first
    | refine hq_ 27 (hop_fa fd_80_0 rfl) rfl rfl pre0 rfl rfl ?_
    | refine hq_ 27 (hop_fa_fp fd_80_0 rfl (by first | exact Nat.le_of_ble_eq_true rfl | omega | (dsimp only; omega) | (simp <;> omega))) rfl rfl pre0 rfl rfl ?_
    first
    | refine hq_ 28 (HOp.val (v' := intV (l.getD k default).kind) (hol_load ty_3 rfl (by first | exact Nat.le_of_ble_eq_true rfl | omega | (dsimp only; omega) | (simp <;> omega)) (by first | exact Nat.le_of_ble_eq_true rfl | omega | (dsimp only; omega) | (simp <;> omega)) (fun h => (by first | rfl | cases h))) (rfl)) rfl rfl (pre1 rfl) rfl rfl ?_
    | refine hq_ 28 (HOp.val (v' := intV (l.getD k default).kind) (hop_load_fp ty_3 rfl (by first | exact Nat.le_of_ble_eq_true rfl | omega | (dsimp only; omega) | (simp <;> omega)) (fun h => (by first | rfl | cases h))) (rfl)) rfl rfl pre0 rfl rfl ?_
    refine st0 (hop_eql rfl rfl) rfl rfl ?_
    refine snl h23 ?_
    refine hw_cond _ rfl (fun hc2 => ?_) (fun hc2 => ?_)
    · have hr2 := hc2; (try simp only [hcs, Int.reduceToNat] at hc2)
      refine hw_region ?_
      refine stm rfl rfl rfl ?_
      first
      | refine hq_ 31 (hop_fa fd_80_4 rfl) rfl rfl pre0 rfl rfl ?_
      | refine hq_ 31 (hop_fa_fp fd_80_4 rfl (by first | exact Nat.le_of_ble_eq_true rfl | omega | (dsimp only; omega) | (simp <;> omega))) rfl rfl pre0 rfl rfl ?_
      first
      | refine hq_ 32 (HOp.val (v' := strV (l.getD k default).name) (hol_load ty_9 rfl (by first | exact Nat.le_of_ble_eq_true rfl | omega | (dsimp only; omega) | (simp <;> omega)) (by first | exact Nat.le_of_ble_eq_true rfl | omega | (dsimp only; omega) | (simp <;> omega)) (fun h => (by first | rfl | cases h))) (rfl)) rfl rfl (pre1 rfl) rfl rfl ?_
      | refine hq_ 32 (HOp.val (v' := strV (l.getD k default).name) (hop_load_fp ty_9 rfl (by first | exact Nat.le_of_ble_eq_true rfl | omega | (dsimp only; omega) | (simp <;> omega)) (fun h => (by first | rfl | cases h))) (rfl)) rfl rfl pre0 rfl rfl ?_
      refine st0 (hop_catl rfl rfl (by first | exact Nat.le_of_ble_eq_true rfl | omega | (dsimp only; omega) | (simp <;> omega))) rfl rfl ?_
      refine sta rfl rfl rfl ?_
      refine snl h22 ?_
      refine hw_seq (fun Nh24 h24 => ?_)
      refine srg fun N h25 => ?_
      first
      | refine hq_ 34 (hop_fa fd_80_0 rfl) rfl rfl pre0 rfl rfl ?_
      | refine hq_ 34 (hop_fa_fp fd_80_0 rfl (by first | exact Nat.le_of_ble_eq_true rfl | omega | (dsimp only; omega) | (simp <;> omega))) rfl rfl pre0 rfl rfl ?_
      first
      | refine hq_ 35 (HOp.val (v' := intV (l.getD k default).kind) (hol_load ty_3 rfl (by first | exact Nat.le_of_ble_eq_true rfl | omega | (dsimp only; omega) | (simp <;> omega)) (by first | exact Nat.le_of_ble_eq_true rfl | omega | (dsimp only; omega) | (simp <;> omega)) (fun h => (by first | rfl | cases h))) (rfl)) rfl rfl (pre1 rfl) rfl rfl ?_
      | refine hq_ 35 (HOp.val (v' := intV (l.getD k default).kind) (hop_load_fp ty_3 rfl (by first | exact Nat.le_of_ble_eq_true rfl | omega | (dsimp only; omega) | (simp <;> omega)) (fun h => (by first | rfl | cases h))) (rfl)) rfl rfl pre0 rfl rfl ?_
      refine st0 (hop_gtr rfl rfl) rfl rfl ?_
      refine stm rfl rfl rfl ?_
      first
      | refine stg 37 (fun hb => hop_fa fd_80_0 rfl) rfl rfl rfl rfl rfl ?_
      | refine sth 37 (fun hb => hop_fa fd_80_0 rfl) rfl rfl rfl rfl rfl ?_
      | refine stg 37 (fun hb => hop_fa_fp fd_80_0 rfl (by first | exact Nat.le_of_ble_eq_true rfl | (simp at hb; first | omega | (dsimp only; omega) | (simp <;> omega)))) rfl rfl rfl rfl rfl ?_
      | refine sth 37 (fun hb => hop_fa_fp fd_80_0 rfl (by first | exact Nat.le_of_ble_eq_true rfl | (simp at hb; first | omega | (dsimp only; omega) | (simp <;> omega)))) rfl rfl rfl rfl rfl ?_
      first
      | refine hq_g 39 3 37 true _ (fun hb => HOp.val (v' := intV (l.getD k default).kind) (hol_load ty_3 rfl (by first | exact Nat.le_of_ble_eq_true rfl | (simp at hb; first | omega | (dsimp only; omega) | (simp <;> omega))) (by first | exact Nat.le_of_ble_eq_true rfl | (simp at hb; first | omega | (dsimp only; omega) | (simp <;> omega))) (fun h => (by first | rfl | cases h))) (rfl)) rfl rfl rfl rfl (pre1 rfl) rfl rfl rfl ?_
      | refine hq_g2 39 3 37 _ _ true _ (fun hb => HOp.val (v' := intV (l.getD k default).kind) (hol_load ty_3 rfl (by first | exact Nat.le_of_ble_eq_true rfl | (simp at hb; first | omega | (dsimp only; omega) | (simp <;> omega))) (by first | exact Nat.le_of_ble_eq_true rfl | (simp at hb; first | omega | (dsimp only; omega) | (simp <;> omega))) (fun h => (by first | rfl | cases h))) (rfl)) rfl rfl rfl rfl (pre1 rfl) rfl rfl rfl ?_
      | refine stg 37 (fun hb => HOp.val (v' := intV (l.getD k default).kind) (hop_load_fp ty_3 rfl (by first | exact Nat.le_of_ble_eq_true rfl | (simp at hb; first | omega | (dsimp only; omega) | (simp <;> omega))) (fun h => (by first | rfl | cases h))) (rfl)) rfl rfl rfl rfl rfl ?_
      | refine sth 37 (fun hb => HOp.val (v' := intV (l.getD k default).kind) (hop_load_fp ty_3 rfl (by first | exact Nat.le_of_ble_eq_true rfl | (simp at hb; first | omega | (dsimp only; omega) | (simp <;> omega))) (fun h => (by first | rfl | cases h))) (rfl)) rfl rfl rfl rfl rfl ?_
      first
      | refine stg 37 (fun hb => hop_lss rfl rfl) rfl rfl rfl rfl rfl ?_
      | refine sth 37 (fun hb => hop_lss rfl rfl) rfl rfl rfl rfl rfl ?_
      first
      | refine hq_p 41 (hstep_and _ _ rfl rfl rfl) rfl rfl rfl ?_
      | refine hq_p 41 (hstep_or _ _ rfl rfl rfl) rfl rfl rfl ?_
      | refine hq_p 41 (hstep_ite _ _ _ rfl rfl rfl) rfl rfl rfl ?_
      | refine hq_p 41 (hstep_pick _ _ _ _ rfl rfl rfl (fun _ => .refl _) (fun _ => .refl _)) rfl rfl rfl ?_
      refine hseq_nilU (by rfl) (by simp only [dropUn, slots]; exact rfl) ?_
      refine h25 _ ?_
      refine hw_cond _ rfl (fun hc3 => ?_) (fun hc3 => ?_)
      · have hr3 := hc3; (try simp only [hcs, Int.reduceToNat] at hc3)
        exfalso; omega
      have hr3 := hc3; (try simp only [hcs, Int.reduceToNat] at hc3)
      refine hw_skip ?_
      refine h24 _ ?_
      refine srg fun N h26 => ?_
      first
      | refine hq_ 49 (hop_fa fd_80_0 rfl) rfl rfl pre0 rfl rfl ?_
      | refine hq_ 49 (hop_fa_fp fd_80_0 rfl (by first | exact Nat.le_of_ble_eq_true rfl | omega | (dsimp only; omega) | (simp <;> omega))) rfl rfl pre0 rfl rfl ?_
      first
      | refine hq_ 50 (HOp.val (v' := intV (l.getD k default).kind) (hol_load ty_3 rfl (by first | exact Nat.le_of_ble_eq_true rfl | omega | (dsimp only; omega) | (simp <;> omega)) (by first | exact Nat.le_of_ble_eq_true rfl | omega | (dsimp only; omega) | (simp <;> omega)) (fun h => (by first | rfl | cases h))) (rfl)) rfl rfl (pre1 rfl) rfl rfl ?_
      | refine hq_ 50 (HOp.val (v' := intV (l.getD k default).kind) (hop_load_fp ty_3 rfl (by first | exact Nat.le_of_ble_eq_true rfl | omega | (dsimp only; omega) | (simp <;> omega)) (fun h => (by first | rfl | cases h))) (rfl)) rfl rfl pre0 rfl rfl ?_
      refine st0 (hop_eql rfl rfl) rfl rfl ?_
      refine snl h26 ?_
      refine hw_cond _ rfl (fun hc4 => ?_) (fun hc4 => ?_)
      · have hr4 := hc4; (try simp only [hcs, Int.reduceToNat] at hc4)
        exfalso; omega
      have hr4 := hc4; (try simp only [hcs, Int.reduceToNat] at hc4)
      refine hw_skip ?_
      refine hq_block ?_
      refine h9 _ ?_
      refine hw_region ?_
      refine stm rfl rfl rfl ?_
      first
      | refine hq_ 13 (hop_addi rfl rfl rfl (by first | exact Nat.le_of_ble_eq_true rfl | omega | (dsimp only; omega) | (simp <;> omega)) (by first | exact Nat.le_of_ble_eq_true rfl | omega | (dsimp only; omega) | (simp <;> omega))) rfl rfl pre0 rfl rfl ?_
      | refine hq_ 13 (hop_add rfl rfl) rfl rfl pre0 rfl rfl ?_
      refine sta rfl rfl rfl ?_
      refine hseq_nil ?_
      exact hL6 ((k + 1, (acc) ++ (l.getD k default).name)) _ _ (by (try dsimp only); exact ⟨by omega, by (try simp only [List.length_append, List.length_cons, List.length_nil]); omega, by have h := show_next (p := (l.getD k default).name) hkl hL hsep (if_pos hc2); simpa only [List.append_nil, List.append_assoc] using h⟩) (by (try dsimp only); omega) (hsub_of rfl (Nat.le_refl _) (TmSub.cons rfl (Sb.refl _) (TmSub.cons rfl (Sb.refl _) (TmSub.cons rfl (Sb.refl _) (TmSub.cons rfl (Sb.refl _) TmSub.nil)))) (HpSub.cons rfl (OSub.refl _) HpSub.nil))
    have hr2 := hc2; (try simp only [hcs, Int.reduceToNat] at hc2)
    refine hw_skip ?_
    refine h22 _ ?_
    refine hw_seq (fun Nh27 h27 => ?_)
    refine srg fun N h28 => ?_
    first
    | refine hq_ 34 (hop_fa fd_80_0 rfl) rfl rfl pre0 rfl rfl ?_
    | refine hq_ 34 (hop_fa_fp fd_80_0 rfl (by first | exact Nat.le_of_ble_eq_true rfl | omega | (dsimp only; omega) | (simp <;> omega))) rfl rfl pre0 rfl rfl ?_
    first
    | refine hq_ 35 (HOp.val (v' := intV (l.getD k default).kind) (hol_load ty_3 rfl (by first | exact Nat.le_of_ble_eq_true rfl | omega | (dsimp only; omega) | (simp <;> omega)) (by first | exact Nat.le_of_ble_eq_true rfl | omega | (dsimp only; omega) | (simp <;> omega)) (fun h => (by first | rfl | cases h))) (rfl)) rfl rfl (pre1 rfl) rfl rfl ?_
    | refine hq_ 35 (HOp.val (v' := intV (l.getD k default).kind) (hop_load_fp ty_3 rfl (by first | exact Nat.le_of_ble_eq_true rfl | omega | (dsimp only; omega) | (simp <;> omega)) (fun h => (by first | rfl | cases h))) (rfl)) rfl rfl pre0 rfl rfl ?_
    refine st0 (hop_gtr rfl rfl) rfl rfl ?_
    refine stm rfl rfl rfl ?_
    first
    | refine stg 37 (fun hb => hop_fa fd_80_0 rfl) rfl rfl rfl rfl rfl ?_
    | refine sth 37 (fun hb => hop_fa fd_80_0 rfl) rfl rfl rfl rfl rfl ?_
    | refine stg 37 (fun hb => hop_fa_fp fd_80_0 rfl (by first | exact Nat.le_of_ble_eq_true rfl | (simp at hb; first | omega | (dsimp only; omega) | (simp <;> omega)))) rfl rfl rfl rfl rfl ?_
    | refine sth 37 (fun hb => hop_fa_fp fd_80_0 rfl (by first | exact Nat.le_of_ble_eq_true rfl | (simp at hb; first | omega | (dsimp only; omega) | (simp <;> omega)))) rfl rfl rfl rfl rfl ?_
    first
    | refine hq_g 39 3 37 true _ (fun hb => HOp.val (v' := intV (l.getD k default).kind) (hol_load ty_3 rfl (by first | exact Nat.le_of_ble_eq_true rfl | (simp at hb; first | omega | (dsimp only; omega) | (simp <;> omega))) (by first | exact Nat.le_of_ble_eq_true rfl | (simp at hb; first | omega | (dsimp only; omega) | (simp <;> omega))) (fun h => (by first | rfl | cases h))) (rfl)) rfl rfl rfl rfl (pre1 rfl) rfl rfl rfl ?_
    | refine hq_g2 39 3 37 _ _ true _ (fun hb => HOp.val (v' := intV (l.getD k default).kind) (hol_load ty_3 rfl (by first | exact Nat.le_of_ble_eq_true rfl | (simp at hb; first | omega | (dsimp only; omega) | (simp <;> omega))) (by first | exact Nat.le_of_ble_eq_true rfl | (simp at hb; first | omega | (dsimp only; omega) | (simp <;> omega))) (fun h => (by first | rfl | cases h))) (rfl)) rfl rfl rfl rfl (pre1 rfl) rfl rfl rfl ?_
    | refine stg 37 (fun hb => HOp.val (v' := intV (l.getD k default).kind) (hop_load_fp ty_3 rfl (by first | exact Nat.le_of_ble_eq_true rfl | (simp at hb; first | omega | (dsimp only; omega) | (simp <;> omega))) (fun h => (by first | rfl | cases h))) (rfl)) rfl rfl rfl rfl rfl ?_
    | refine sth 37 (fun hb => HOp.val (v' := intV (l.getD k default).kind) (hop_load_fp ty_3 rfl (by first | exact Nat.le_of_ble_eq_true rfl | (simp at hb; first | omega | (dsimp only; omega) | (simp <;> omega))) (fun h => (by first | rfl | cases h))) (rfl)) rfl rfl rfl rfl rfl ?_
    first
    | refine stg 37 (fun hb => hop_lss rfl rfl) rfl rfl rfl rfl rfl ?_
    | refine sth 37 (fun hb => hop_lss rfl rfl) rfl rfl rfl rfl rfl ?_
    first
    | refine hq_p 41 (hstep_and _ _ rfl rfl rfl) rfl rfl rfl ?_
    | refine hq_p 41 (hstep_or _ _ rfl rfl rfl) rfl rfl rfl ?_
    | refine hq_p 41 (hstep_ite _ _ _ rfl rfl rfl) rfl rfl rfl ?_
    | refine hq_p 41 (hstep_pick _ _ _ _ rfl rfl rfl (fun _ => .refl _) (fun _ => .refl _)) rfl rfl rfl ?_
    refine hseq_nilU (by rfl) (by simp only [dropUn, slots]; exact rfl) ?_
    refine h28 _ ?_
    refine hw_cond _ rfl (fun hc3 => ?_) (fun hc3 => ?_)
    · have hr3 := hc3; (try simp only [hcs, Int.reduceToNat] at hc3)
      have hpl : (pieceL (l.getD k default)).length ≤ 1 := piece_short hc3.1 hc3.2
      refine hw_region ?_
      refine stm rfl rfl rfl ?_
      refine stm rfl rfl rfl ?_
      first
      | refine hq_ 44 (hop_fa fd_80_0 rfl) rfl rfl pre0 rfl rfl ?_
      | refine hq_ 44 (hop_fa_fp fd_80_0 rfl (by first | exact Nat.le_of_ble_eq_true rfl | omega | (dsimp only; omega) | (simp <;> omega))) rfl rfl pre0 rfl rfl ?_
      first
      | refine hq_ 45 (HOp.val (v' := intV (l.getD k default).kind) (hol_load ty_3 rfl (by first | exact Nat.le_of_ble_eq_true rfl | omega | (dsimp only; omega) | (simp <;> omega)) (by first | exact Nat.le_of_ble_eq_true rfl | omega | (dsimp only; omega) | (simp <;> omega)) (fun h => (by first | rfl | cases h))) (rfl)) rfl rfl (pre1 rfl) rfl rfl ?_
      | refine hq_ 45 (HOp.val (v' := intV (l.getD k default).kind) (hop_load_fp ty_3 rfl (by first | exact Nat.le_of_ble_eq_true rfl | omega | (dsimp only; omega) | (simp <;> omega)) (fun h => (by first | rfl | cases h))) (rfl)) rfl rfl pre0 rfl rfl ?_
      first
      | refine hq_ 46 (hop_ia_sl el_33 rfl rfl (by first | exact Nat.le_of_ble_eq_true rfl | omega | (dsimp only; omega) | (simp <;> omega)) (by first | exact Nat.le_of_ble_eq_true rfl | omega | (dsimp only; omega) | (simp <;> omega)) (by first | exact Nat.le_of_ble_eq_true rfl | omega | (dsimp only; omega) | (simp <;> omega))) rfl rfl pre0 rfl rfl ?_
      | refine hq_ 46 (hol_ia_os el_33 rfl rfl (by first | exact Nat.le_of_ble_eq_true rfl | omega | (dsimp only; omega) | (simp <;> omega)) (by first | exact Nat.le_of_ble_eq_true rfl | omega | (dsimp only; omega) | (simp <;> omega))) rfl rfl (pre1 rfl) rfl rfl ?_
      first
      | refine hq_ 47 (HOp.val (v' := strV (pieceL (l.getD k default))) (hol_load ty_9 rfl (by first | exact Nat.le_of_ble_eq_true rfl | omega | (dsimp only; omega) | (simp <;> omega)) (by first | exact Nat.le_of_ble_eq_true rfl | omega | (dsimp only; omega) | (simp <;> omega)) (fun h => (by first | rfl | cases h))) ((by exact nam_piece hc3.1 hc3.2))) rfl rfl (pre1 rfl) rfl rfl ?_
      | refine hq_ 47 (HOp.val (v' := strV (pieceL (l.getD k default))) (hop_load_fp ty_9 rfl (by first | exact Nat.le_of_ble_eq_true rfl | omega | (dsimp only; omega) | (simp <;> omega)) (fun h => (by first | rfl | cases h))) ((by exact nam_piece hc3.1 hc3.2))) rfl rfl pre0 rfl rfl ?_
      refine st0 (hop_catl rfl rfl (by first | exact Nat.le_of_ble_eq_true rfl | omega | (dsimp only; omega) | (simp <;> omega))) rfl rfl ?_
      refine sta rfl rfl rfl ?_
      refine snl h27 ?_
      refine srg fun N h29 => ?_
      first
      | refine hq_ 49 (hop_fa fd_80_0 rfl) rfl rfl pre0 rfl rfl ?_
      | refine hq_ 49 (hop_fa_fp fd_80_0 rfl (by first | exact Nat.le_of_ble_eq_true rfl | omega | (dsimp only; omega) | (simp <;> omega))) rfl rfl pre0 rfl rfl ?_
      first
      | refine hq_ 50 (HOp.val (v' := intV (l.getD k default).kind) (hol_load ty_3 rfl (by first | exact Nat.le_of_ble_eq_true rfl | omega | (dsimp only; omega) | (simp <;> omega)) (by first | exact Nat.le_of_ble_eq_true rfl | omega | (dsimp only; omega) | (simp <;> omega)) (fun h => (by first | rfl | cases h))) (rfl)) rfl rfl (pre1 rfl) rfl rfl ?_
      | refine hq_ 50 (HOp.val (v' := intV (l.getD k default).kind) (hop_load_fp ty_3 rfl (by first | exact Nat.le_of_ble_eq_true rfl | omega | (dsimp only; omega) | (simp <;> omega)) (fun h => (by first | rfl | cases h))) (rfl)) rfl rfl pre0 rfl rfl ?_
      refine st0 (hop_eql rfl rfl) rfl rfl ?_
      refine snl h29 ?_
      refine hw_cond _ rfl (fun hc4 => ?_) (fun hc4 => ?_)
      · have hr4 := hc4; (try simp only [hcs, Int.reduceToNat] at hc4)
        exfalso; omega
      have hr4 := hc4; (try simp only [hcs, Int.reduceToNat] at hc4)
      refine hw_skip ?_
      refine hq_block ?_
      refine h9 _ ?_
      refine hw_region ?_
      refine stm rfl rfl rfl ?_
      first
      | refine hq_ 13 (hop_addi rfl rfl rfl (by first | exact Nat.le_of_ble_eq_true rfl | omega | (dsimp only; omega) | (simp <;> omega)) (by first | exact Nat.le_of_ble_eq_true rfl | omega | (dsimp only; omega) | (simp <;> omega))) rfl rfl pre0 rfl rfl ?_
      | refine hq_ 13 (hop_add rfl rfl) rfl rfl pre0 rfl rfl ?_
      refine sta rfl rfl rfl ?_
      refine hseq_nil ?_
      exact hL6 ((k + 1, (acc) ++ pieceL (l.getD k default))) _ _ (by (try dsimp only); exact ⟨by omega, by (try simp only [List.length_append, List.length_cons, List.length_nil]); omega, by have h := show_next (p := pieceL (l.getD k default)) hkl hL hsep (rfl); simpa only [List.append_nil, List.append_assoc] using h⟩) (by (try dsimp only); omega) (hsub_of rfl (Nat.le_refl _) (TmSub.cons rfl (Sb.refl _) (TmSub.cons rfl (Sb.refl _) (TmSub.cons rfl (Sb.refl _) (TmSub.cons rfl (Sb.refl _) TmSub.nil)))) (HpSub.cons rfl (OSub.refl _) HpSub.nil))
    have hr3 := hc3; (try simp only [hcs, Int.reduceToNat] at hc3)
    refine hw_skip ?_
    refine h27 _ ?_
    refine srg fun N h30 => ?_
    first
    | refine hq_ 49 (hop_fa fd_80_0 rfl) rfl rfl pre0 rfl rfl ?_
    | refine hq_ 49 (hop_fa_fp fd_80_0 rfl (by first | exact Nat.le_of_ble_eq_true rfl | omega | (dsimp only; omega) | (simp <;> omega))) rfl rfl pre0 rfl rfl ?_
    first
    | refine hq_ 50 (HOp.val (v' := intV (l.getD k default).kind) (hol_load ty_3 rfl (by first | exact Nat.le_of_ble_eq_true rfl | omega | (dsimp only; omega) | (simp <;> omega)) (by first | exact Nat.le_of_ble_eq_true rfl | omega | (dsimp only; omega) | (simp <;> omega)) (fun h => (by first | rfl | cases h))) (rfl)) rfl rfl (pre1 rfl) rfl rfl ?_
    | refine hq_ 50 (HOp.val (v' := intV (l.getD k default).kind) (hop_load_fp ty_3 rfl (by first | exact Nat.le_of_ble_eq_true rfl | omega | (dsimp only; omega) | (simp <;> omega)) (fun h => (by first | rfl | cases h))) (rfl)) rfl rfl pre0 rfl rfl ?_
    refine st0 (hop_eql rfl rfl) rfl rfl ?_
    refine snl h30 ?_
    refine hw_cond _ rfl (fun hc4 => ?_) (fun hc4 => ?_)
    · have hr4 := hc4; (try simp only [hcs, Int.reduceToNat] at hc4)
      refine hw_region ?_
      refine stm rfl rfl rfl ?_
      first
      | refine hq_ 53 (hop_fa fd_80_2 rfl) rfl rfl pre0 rfl rfl ?_
      | refine hq_ 53 (hop_fa_fp fd_80_2 rfl (by first | exact Nat.le_of_ble_eq_true rfl | omega | (dsimp only; omega) | (simp <;> omega))) rfl rfl pre0 rfl rfl ?_
      first
      | refine hq_ 54 (HOp.val (v' := intV (l.getD k default).low) (hol_load ty_3 rfl (by first | exact Nat.le_of_ble_eq_true rfl | omega | (dsimp only; omega) | (simp <;> omega)) (by first | exact Nat.le_of_ble_eq_true rfl | omega | (dsimp only; omega) | (simp <;> omega)) (fun h => (by first | rfl | cases h))) (rfl)) rfl rfl (pre1 rfl) rfl rfl ?_
      | refine hq_ 54 (HOp.val (v' := intV (l.getD k default).low) (hop_load_fp ty_3 rfl (by first | exact Nat.le_of_ble_eq_true rfl | omega | (dsimp only; omega) | (simp <;> omega)) (fun h => (by first | rfl | cases h))) (rfl)) rfl rfl pre0 rfl rfl ?_
      first
      | refine hq_ 55 (hop_fa fd_80_3 rfl) rfl rfl pre0 rfl rfl ?_
      | refine hq_ 55 (hop_fa_fp fd_80_3 rfl (by first | exact Nat.le_of_ble_eq_true rfl | omega | (dsimp only; omega) | (simp <;> omega))) rfl rfl pre0 rfl rfl ?_
      first
      | refine hq_ 56 (HOp.val (v' := intV (l.getD k default).high) (hol_load ty_3 rfl (by first | exact Nat.le_of_ble_eq_true rfl | omega | (dsimp only; omega) | (simp <;> omega)) (by first | exact Nat.le_of_ble_eq_true rfl | omega | (dsimp only; omega) | (simp <;> omega)) (fun h => (by first | rfl | cases h))) (rfl)) rfl rfl (pre1 rfl) rfl rfl ?_
      | refine hq_ 56 (HOp.val (v' := intV (l.getD k default).high) (hop_load_fp ty_3 rfl (by first | exact Nat.le_of_ble_eq_true rfl | omega | (dsimp only; omega) | (simp <;> omega)) (fun h => (by first | rfl | cases h))) (rfl)) rfl rfl pre0 rfl rfl ?_
      refine st0 (hop_call0 (xs := [_, _]) (refTimes_h _ _ hx.low hx.high) ⟨rfl, ⟨rfl, trivial⟩⟩ ⟨(Fz.eq rfl), ⟨(Fz.eq rfl), trivial⟩⟩) rfl rfl ?_
      refine st0 (hop_catl rfl rfl (by first | exact Nat.le_of_ble_eq_true rfl | omega | (dsimp only; omega) | (simp <;> omega))) rfl rfl ?_
      refine sta rfl rfl rfl ?_
      refine hseq_nil ?_
      refine hq_block ?_
      refine h9 _ ?_
      refine hw_region ?_
      refine stm rfl rfl rfl ?_
      first
      | refine hq_ 13 (hop_addi rfl rfl rfl (by first | exact Nat.le_of_ble_eq_true rfl | omega | (dsimp only; omega) | (simp <;> omega)) (by first | exact Nat.le_of_ble_eq_true rfl | omega | (dsimp only; omega) | (simp <;> omega))) rfl rfl pre0 rfl rfl ?_
      | refine hq_ 13 (hop_add rfl rfl) rfl rfl pre0 rfl rfl ?_
      refine sta rfl rfl rfl ?_
      refine hseq_nil ?_
      exact hL6 ((k + 1, (acc) ++ timesL (l.getD k default).low (l.getD k default).high)) _ _ (by (try dsimp only); exact ⟨by omega, by (try simp only [List.length_append, List.length_cons, List.length_nil]); omega, by have h := show_next (p := timesL (l.getD k default).low (l.getD k default).high) hkl hL hsep (by unfold pieceL; rw [if_neg hc2, if_neg (fun h => by have h3 := hr3; rw [h] at h3; simp at h3), if_neg (fun h => by have h3 := hr3; rw [h] at h3; simp at h3), if_neg (fun h => by have h3 := hr3; rw [h] at h3; simp at h3), if_pos hc4]); simpa only [List.append_nil, List.append_assoc] using h⟩) (by (try dsimp only); omega) (hsub_of rfl (Nat.le_refl _) (TmSub.cons rfl (Sb.refl _) (TmSub.cons rfl (Sb.refl _) (TmSub.cons rfl (Sb.refl _) (TmSub.cons rfl (Sb.refl _) TmSub.nil)))) (HpSub.cons rfl (OSub.refl _) HpSub.nil))
    have hr4 := hc4; (try simp only [hcs, Int.reduceToNat] at hc4)
    refine hw_skip ?_
    refine hq_block ?_
    refine h9 _ ?_
    refine hw_region ?_
    refine stm rfl rfl rfl ?_
    first
    | refine hq_ 13 (hop_addi rfl rfl rfl (by first | exact Nat.le_of_ble_eq_true rfl | omega | (dsimp only; omega) | (simp <;> omega)) (by first | exact Nat.le_of_ble_eq_true rfl | omega | (dsimp only; omega) | (simp <;> omega))) rfl rfl pre0 rfl rfl ?_
    | refine hq_ 13 (hop_add rfl rfl) rfl rfl pre0 rfl rfl ?_
    refine sta rfl rfl rfl ?_
    refine hseq_nil ?_
    exact hL6 ((k + 1, acc)) _ _ (by (try dsimp only); exact ⟨by omega, by (try simp only [List.length_append, List.length_cons, List.length_nil]); omega, by have h := show_next (p := []) hkl hL hsep (by unfold pieceL; rw [if_neg hc2, if_neg (fun h => by have h3 := hr3; rw [h] at h3; simp at h3), if_neg (fun h => by have h3 := hr3; rw [h] at h3; simp at h3), if_neg (fun h => by have h3 := hr3; rw [h] at h3; simp at h3), if_neg hc4]); simpa only [List.append_nil, List.append_assoc] using h⟩) (by (try dsimp only); omega) (hsub_of rfl (Nat.le_refl _) (TmSub.cons rfl (Sb.refl _) (TmSub.cons rfl (Sb.refl _) (TmSub.cons rfl (Sb.refl _) (TmSub.cons rfl (Sb.refl _) TmSub.nil)))) (HpSub.cons rfl (OSub.refl _) HpSub.nil))
  have hr0 := hc0; (try simp only [hcs, Int.reduceToNat] at hc0)
  refine hw_exit ?_
  refine hq_then_exit ?_
  refine hq_then_exit ?_
  refine hq_block_here ?_
  refine h4 _ ?_
  refine srg fun N h31 => ?_
  refine stm rfl rfl rfl ?_
  refine sta rfl rfl rfl ?_
  refine snl h31 ?_
  refine hw_ret ?_
  refine hq_ret1 rfl (rval_tmp rfl) [] rfl pre0 ?_
  have e := show_end (by omega) hL; rw [e]; exact .imm _
end Go.Proofs.YtmcchhmgchgaaaaDoor

namespace Go.Proofs.YtmcchhmgchgaaaaDoor
set_option linter.unusedSimpArgs false
set_option linter.unusedVariables false
set_option maxRecDepth 100000
set_option maxHeartbeats 1000000
open Go.RowKit

@[reducible] def sg6O (g : Nat) (l : List Sg) : HObj := ⟨g, l.length, 5, 80, 0, sgsF l⟩
def opnS (b : Bool) : List Sg := if b = true then [⟨2, 0, 0, 0, []⟩] else []
def clsS (b : Bool) : List Sg := if b = true then [⟨3, 0, 0, 0, []⟩] else []
theorem wrap_eq (b : Bool) (l : List Sg) : wrapS b l = opnS b ++ l ++ clsS b := by cases b <;> simp [wrapS, opnS, clsS]
theorem name_top {t : T} {b : Nat} (h : t.ok = true) (hk : (t.top b).kind = 1) : nameS t = [⟨1, 0, 0, 0, (t.top b).name⟩] := by
  rw [top_kind] at hk
  cases t with
  | name s => rfl
  | times lo hi t => simp [T.kind] at hk
  | many k ts =>
    simp only [T.kind] at hk
    subst hk
    simp [T.ok] at h
theorem name_not {t : T} {b : Nat} (hk : ¬ (t.top b).kind = 1) : nameS t = [] := by
  rw [top_kind] at hk
  cases t with
  | name s => exact absurd rfl hk
  | times lo hi t => rfl
  | many k ts => rfl
theorem times_top {t : T} {b : Nat} (h : t.ok = true) (hk : (t.top b).kind = 4) : timesS t = [⟨5, 0, (t.top b).low, (t.top b).high, []⟩] := by
  rw [top_kind] at hk
  cases t with
  | name s => simp [T.kind] at hk
  | times lo hi t => rfl
  | many k ts =>
    simp only [T.kind] at hk
    subst hk
    simp [T.ok] at h
theorem times_not {t : T} {b : Nat} (hk : ¬ (t.top b).kind = 4) : timesS t = [] := by
  rw [top_kind] at hk
  cases t with
  | name s => rfl
  | times lo hi t => exact absurd rfl hk
  | many k ts => rfl
theorem sb_sgn {x : Sg} {out o' : List Sg} {g n ty : Nat} {f : Nat → Nat → HV} (ho : out ++ [x] = o') (hn : n = out.length) (h0 : f 0 0 = intV x.kind := by rfl) (h1 : f 0 1 = intV x.at_ := by rfl) (h2 : f 0 2 = intV x.low := by rfl) (h3 : f 0 3 = intV x.high := by rfl) (h4 : f 0 4 = strV x.name := by rfl) :
    OSub ⟨g, n + 1, 5, ty, 0, cat n (sgsF out) f⟩ ⟨g, o'.length, 5, ty, 0, sgsF o'⟩ := by
  subst ho
  exact osub_snoc (enc := sgF) (d := default) (x := x) (out := out) hn (fun i j _ _ => .refl _) (sb_sg5 (by rw [h0]; exact .refl _) (by rw [h1]; exact .refl _) (by rw [h2]; exact .refl _) (by rw [h3]; exact .refl _) (by rw [h4]; exact .refl _))
theorem sb_sgcat {k out o' : List Sg} {g n m ty : Nat} (ho : out ++ k = o') (hn : n = out.length) (hm : m = n + k.length) : OSub ⟨g, m, 5, ty, 0, cat n (sgsF out) (sgsF k)⟩ ⟨g, o'.length, 5, ty, 0, sgsF o'⟩ := by
  subst ho; subst hn; subst hm
  refine ⟨rfl, by simp, rfl, rfl, Nat.le_refl _, fun i j hi hj => ?_, fun h => absurd h (Nat.not_lt_zero _)⟩
  exact sb_cat (l := out) (k := k) (enc := sgF) (d := default) rfl (fun i j _ _ => .refl _) (fun i j _ _ => .refl _) i j (by rw [List.length_append]; exact hi) hj
theorem sigs_doc (e : List Pt) (he : e.length ≤ 100000) (b : Nat) (t : T) (hok : t.ok = true) (hat : AtP e b (T.flat b t)) (hkl : t.kidsT.length ≤ 100000) (hl : t.sig.length ≤ 100000)
    (ih : ∀ i, i < t.kidsT.length → ∀ bin, HPure Tryd.prog 47 [ptsV e, intV ((b + T.sizeL (t.kidsT.take i) + (t.kidsT.getD i default).size - 1 : Nat) : Int), boolV bin] (sgsV (wrapS bin (t.kidsT.getD i default).sig))) (bin : Bool) :
    HPure Tryd.prog 47 [ptsV e, intV ((b + t.size - 1 : Nat) : Int), boolV bin] (sgsV (wrapS bin t.sig)) := by
  have htop := at_top hat
  have hps := t.size_pos
  have hkid := top_kids b t
  have hrl := rootsL_len t.kidsT b
  have hsk := sig_kids t
  have hkx := kids_ok hok
  have hkk := kind_ok hok
  have hopl : (opnS bin).length ≤ 1 := by unfold opnS; split <;> simp
  have hnl : (nameS t).length ≤ 1 := by unfold nameS; split <;> simp
  have hsl : (T.sigL t.kind true t.kidsT).length ≤ 100000 := by rw [hsk] at hl; simp only [List.length_append] at hl; omega
  have hdk : ∀ i, i < t.kidsT.length → (t.kidsT.getD i default).ok = true := fun i hi => by
    have : ∀ (ts : List T) i, T.okL ts = true → i < ts.length → (ts.getD i default).ok = true := by
      intro ts
      induction ts with
      | nil => intro i _ h; exact absurd h (Nat.not_lt_zero _)
      | cons x ts ihh =>
        intro i h hi
        simp only [T.okL, Bool.and_eq_true] at h
        cases i with
        | zero => exact h.1
        | succ i => simpa using ihh i h.2 (by simpa using hi)
    exact this _ i hkx hi
  generalize htp : t.top b = p at htop hkid
  have hpk : p.kind = t.kind := by rw [← htp]; exact top_kind b t
  refine hpure_of Tryd.func47 rfl (by kernel_rfl) _ _ _ rfl 102 rfl rfl (fun w F => ?_)
  refine srg fun N h1 => ?_
  refine sta rfl rfl rfl ?_
  refine snl h1 ?_
  refine srg fun N h2 => ?_
  refine sta rfl rfl rfl ?_
  refine snl h2 ?_
  refine srg fun N h3 => ?_
  refine stm rfl rfl rfl ?_
  refine stm rfl rfl rfl ?_
  refine st0 (hop_ia_sl el_41 rfl rfl (by omega) (by omega) (nb rfl)) rfl rfl ?_
  refine st0 (HOp.val (v' := ptH p) (hop_load_fp ty_46 rfl (nb rfl) (fun h => (by cases h))) (pt_at (by omega) htop.1)) rfl rfl ?_
  refine hm_1 8 (hop_alloc (id := 8) (sz := 5) zc_46 rfl rfl (nb rfl) (nb rfl)) rfl rfl pre0 rfl rfl (c' := 1) rfl ?_
  refine hm_s1 (hol_storeW ty_46 rfl rfl rfl rfl) rfl rfl (pre1 rfl) (c' := 2) rfl ?_
  refine snl h3 ?_
  refine hw_joinc (α := List Sg × Nat) (fun x c => ⟨102, [(0, .v (ptsV e)), (1, .v (intV ((b + t.size - 1 : Nat) : Int))), (2, .v (boolV bin)), (7, .v (.os 9002 x.2 0 x.1.length)), (8, .v (.pt 8 0 0 0))], [(8, ⟨0, 1, 5, 46, 0, fun _ => ptF p⟩), (9002, sg6O x.2 x.1)], c⟩) (fun x => x.1 = opnS bin) (fun NhJ4 hJ4 => ?_) (fun x c hx => ?_)
  · skip
    refine hw_seq (fun Nh5 h5 => ?_)
    refine hw_own 7 9002 5 80 (sgsF []) rfl (by decide) rfl (c' := 3) rfl ?_
    refine hw_region ?_
    refine stm rfl rfl rfl ?_
    refine snl h5 ?_
    refine hw_cond _ rfl (fun hc0 => ?_) (fun hc0 => ?_)
    · have hr0 := hc0; (try simp only [hcs, Int.reduceToNat] at hc0)
      refine hw_region ?_
      refine stm rfl rfl rfl ?_
      refine st0 (hop_build (hs := [(0, 1, _)]) st_80 rfl rfl ⟨rfl, rfl, rfl, rfl, rfl, trivial⟩) rfl rfl ?_
      refine hm_1 18 (hop_buildSlice (id := 18) (hs := [_]) ei_76 (nb rfl) rfl (nb rfl) ⟨rfl, rfl, rfl, rfl, trivial⟩) rfl rfl pre0 rfl rfl (c' := 4) rfl ?_
      refine hm_1 19 (hol_append ei_76 (nb rfl) rfl (nb rfl) (nb rfl) (srl_os0 rfl (nb rfl)) (nb rfl) rfl) rfl rfl (preC rfl (pre1 rfl)) rfl rfl (c' := 5) rfl ?_
      refine sta rfl rfl rfl ?_
      refine hseq_nil ?_
      exact hJ4 (([⟨2, 0, 0, 0, []⟩], 4)) _ _ (by (try dsimp only); rw [hc0]; rfl) (hsub_of rfl (Nat.le_refl _) (TmSub.cons rfl (Sb.refl _) (TmSub.cons rfl (Sb.refl _) (TmSub.cons rfl (Sb.refl _) (TmSub.cons rfl (Sb.refl _) (TmSub.cons rfl (Sb.refl _) TmSub.nil))))) (HpSub.cons rfl (by exact osub5 (.refl _) (.refl _) (.refl _) (.refl _) (.refl _)) (HpSub.cons rfl (sb_sgn (out := []) (x := ⟨2, 0, 0, 0, []⟩) rfl rfl) HpSub.nil)))
    have hr0 := hc0; (try simp only [hcs, Int.reduceToNat] at hc0)
    refine hw_skip ?_
    exact hJ4 (([], 2)) _ _ (by (try dsimp only); rw [hc0]; rfl) (hsub_of rfl (Nat.le_refl _) (TmSub.cons rfl (Sb.refl _) (TmSub.cons rfl (Sb.refl _) (TmSub.cons rfl (Sb.refl _) (TmSub.cons rfl (Sb.refl _) (TmSub.cons rfl (Sb.refl _) TmSub.nil))))) (HpSub.cons rfl (by exact osub5 (.refl _) (.refl _) (.refl _) (.refl _) (.refl _)) (HpSub.cons rfl (.refl _) HpSub.nil)))
  · skip
    revert hx; obtain ⟨o, g⟩ := x; intro hx; dsimp only at hx ⊢
    have hol2 : o.length ≤ 10 := (by rw [hx]; omega)
    refine hw_joinc (α := List Sg × Nat) (fun x c => ⟨102, [(0, .v (ptsV e)), (1, .v (intV ((b + t.size - 1 : Nat) : Int))), (2, .v (boolV bin)), (7, .v (.os 9002 x.2 0 x.1.length)), (8, .v (.pt 8 0 0 0))], [(8, ⟨0, 1, 5, 46, 0, fun _ => ptF p⟩), (9002, sg6O x.2 x.1)], c⟩) (fun x => x.1 = opnS bin ++ nameS t) (fun NhJ6 hJ6 => ?_) (fun x c hx => ?_)
    · skip
      refine srg fun N h7 => ?_
      refine st0 (hop_fa fd_46_0 rfl) rfl rfl ?_
      refine st1 (hol_load ty_3 rfl (nb rfl) (nb rfl) (fun h => (by rfl))) rfl rfl rfl ?_
      refine st0 (hop_eql rfl rfl) rfl rfl ?_
      refine snl h7 ?_
      refine hw_cond _ rfl (fun hc1 => ?_) (fun hc1 => ?_)
      · have hr1 := hc1; (try simp only [hcs, Int.reduceToNat] at hc1)
        refine hw_region ?_
        refine stm rfl rfl rfl ?_
        refine st0 (hop_fa fd_46_3 rfl) rfl rfl ?_
        refine st1 (hol_load ty_9 rfl (nb rfl) (nb rfl) (fun h => (by rfl))) rfl rfl rfl ?_
        refine st0 (hop_build (hs := [(0, 1, _), (4, 1, _)]) st_80 rfl rfl ⟨rfl, rfl, rfl, rfl, rfl, ⟨rfl, rfl, rfl, rfl, rfl, trivial⟩⟩) rfl rfl ?_
        refine hm_1 27 (hop_buildSlice (id := 27) (hs := [_]) ei_76 (nb rfl) rfl (nb rfl) ⟨rfl, rfl, rfl, rfl, trivial⟩) rfl rfl pre0 rfl rfl (c' := c + 1) rfl ?_
        refine hm_1 28 (hol_append ei_76 (nb rfl) rfl (by omega) (nb rfl) (srl_os0 rfl (nb rfl)) (by omega) rfl) rfl rfl (preC rfl (pre1 rfl)) rfl rfl (c' := c + 2) rfl ?_
        refine sta rfl rfl rfl ?_
        refine hseq_nil ?_
        exact hJ6 ((o ++ [⟨1, 0, 0, 0, p.name⟩], c + 1)) _ _ (by (try dsimp only); rw [hx, name_top (b := b) hok (by rw [htp]; exact hc1), htp]) (hsub_of rfl (Nat.le_refl _) (TmSub.cons rfl (Sb.refl _) (TmSub.cons rfl (Sb.refl _) (TmSub.cons rfl (Sb.refl _) (TmSub.cons rfl (sb_os (by simp)) (TmSub.cons rfl (Sb.refl _) TmSub.nil))))) (HpSub.cons rfl (.refl _) (HpSub.cons rfl (sb_sgn (x := ⟨1, 0, 0, 0, p.name⟩) rfl rfl) HpSub.nil)))
      have hr1 := hc1; (try simp only [hcs, Int.reduceToNat] at hc1)
      refine hw_skip ?_
      exact hJ6 ((o, g)) _ _ (by (try dsimp only); rw [hx, name_not (b := b) (by rw [htp]; exact hc1), List.append_nil]) (hsub_of rfl (Nat.le_refl _) (TmSub.cons rfl (Sb.refl _) (TmSub.cons rfl (Sb.refl _) (TmSub.cons rfl (Sb.refl _) (TmSub.cons rfl (Sb.refl _) (TmSub.cons rfl (Sb.refl _) TmSub.nil))))) (HpSub.cons rfl (OSub.refl _) (HpSub.cons rfl (OSub.refl _) HpSub.nil)))
    · skip
      revert hx; obtain ⟨o, g⟩ := x; intro hx; dsimp only at hx ⊢
      have hol2 : o.length ≤ 10 := (by rw [hx]; simp only [List.length_append]; omega)
      refine hw_seq (fun Nh8 h8 => ?_)
      refine srg fun N h9 => ?_
      refine sta rfl rfl rfl ?_
      refine snl h9 ?_
      refine hw_block ?_
      refine hw_loopc (α := Nat × List Sg × Nat) (fun x c => ⟨102, [(0, .v (ptsV e)), (1, .v (intV ((b + t.size - 1 : Nat) : Int))), (2, .v (boolV bin)), (7, .v (.os 9002 x.2.2 0 x.2.1.length)), (8, .v (.pt 8 0 0 0)), (9, .v (intV x.1))], [(8, ⟨0, 1, 5, 46, 0, fun _ => ptF p⟩), (9002, sg6O x.2.2 x.2.1)], c⟩) (fun x => x.1 ≤ t.kidsT.length ∧ x.2.1 = opnS bin ++ nameS t ++ T.sigL t.kind true (t.kidsT.take x.1)) (fun x => t.kidsT.length - x.1) ((0, o, g)) (by exact ⟨Nat.zero_le _, by rw [hx, List.take_zero]; simp [T.sigL]⟩) (hsub_of rfl (Nat.le_refl _) (TmSub.cons rfl (Sb.refl _) (TmSub.cons rfl (Sb.refl _) (TmSub.cons rfl (Sb.refl _) (TmSub.cons rfl (Sb.refl _) (TmSub.cons rfl (Sb.refl _) (TmSub.cons rfl (Sb.refl _) TmSub.nil)))))) (HpSub.cons rfl (OSub.refl _) (HpSub.cons rfl (OSub.refl _) HpSub.nil))) (fun x c hx NhL10 hL10 => ?_)
      revert hx hL10; obtain ⟨i, o, g⟩ := x; intro hx hL10; dsimp only at hx hL10 ⊢
      obtain ⟨hi, hoo⟩ := hx
      have hol := kids_len hkx (i := i) (k := t.kind) hi; have hol2 : o.length ≤ 200000 := (by rw [hoo, List.length_append, List.length_append]; omega)
      refine hw_seq (fun Nh11 h11 => ?_)
      refine srg fun N h12 => ?_
      refine stm rfl rfl rfl ?_
      refine st0 (hop_fa fd_46_4 rfl) rfl rfl ?_
      refine st1 (HOp.val (v' := kidsV p.kids) (hol_load ty_44 rfl (nb rfl) (nb rfl) (fun h => (by rfl))) (rfl)) rfl rfl rfl ?_
      refine st0 (hop_len_sl (T := 44) rfl (elOf_spec el_44).1 rfl) rfl rfl ?_
      refine st0 (hop_lss rfl rfl) rfl rfl ?_
      refine snl h12 ?_
      refine hw_cond _ rfl (fun hc2 => ?_) (fun hc2 => ?_)
      · have hr2 := hc2; (try simp only [hcs, Int.reduceToNat] at hc2)
        have him : i < t.kidsT.length := (by have h := hr2; simp [hkid, hrl] at h; omega); have hka := kids_at' hat him; have hkt := at_top hka; have hkd : (e.getD (b + T.sizeL (t.kidsT.take i) + (t.kidsT.getD i default).size - 1) default).kind = (t.kidsT.getD i default).kind := (by rw [hkt.1, top_kind]); have hks := (t.kidsT.getD i default).size_pos; have hkn := kid_next_len (k := t.kind) him; have hp4 : t.kind = 2 ∨ t.kind = 3 ∨ t.kind = 4 := (by rcases hkk with h | h | h | h; (exfalso; cases t <;> simp [T.kind, T.kidsT] at h him; subst h; simp [T.ok] at hok); exact .inl h; exact .inr (.inl h); exact .inr (.inr h)); have hdoc := in_doc hp4 (kind_ok (hdk i him)); have hroot := roots_get t.kidsT b i him
        refine hw_skip ?_
        refine h11 _ ?_
        refine hw_seq (fun Nh13 h13 => ?_)
        refine hw_block ?_
        refine srg fun N h14 => ?_
        refine stm rfl rfl rfl ?_
        refine st0 (hop_fa fd_46_4 rfl) rfl rfl ?_
        refine st1 (HOp.val (v' := kidsV p.kids) (hol_load ty_44 rfl (nb rfl) (nb rfl) (fun h => (by rfl))) (rfl)) rfl rfl rfl ?_
        refine stm rfl rfl rfl ?_
        refine st0 (hop_ia_sl el_44 rfl rfl (by omega) (by omega) (nb rfl)) rfl rfl ?_
        refine st0 (HOp.val (v' := intV ((b + T.sizeL (t.kidsT.take i) + (t.kidsT.getD i default).size - 1 : Nat) : Int)) (hop_load_fp ty_3 rfl (nb rfl) (fun h => (by rfl))) (by exact kids_at (i := i) (by omega) (by rw [hkid, hroot]; unfold T.root; omega))) rfl rfl ?_
        refine st0 (hop_ia_sl el_41 rfl rfl (by omega) (by omega) (nb rfl)) rfl rfl ?_
        refine st0 (hop_fa_fp fd_46_0 rfl (nb rfl)) rfl rfl ?_
        refine st0 (HOp.val (v' := intV (t.kidsT.getD i default).kind) (hop_load_fp ty_3 rfl (nb rfl) (fun h => (by rfl))) (kind_at (by omega) hkd)) rfl rfl ?_
        refine sta rfl rfl rfl ?_
        refine snl h14 ?_
        refine hw_joinc (α := List Sg × Nat) (fun x c => ⟨102, [(0, .v (ptsV e)), (1, .v (intV ((b + t.size - 1 : Nat) : Int))), (2, .v (boolV bin)), (7, .v (.os 9002 x.2 0 x.1.length)), (8, .v (.pt 8 0 0 0)), (9, .v (intV i)), (10, .v (intV (t.kidsT.getD i default).kind))], [(8, ⟨0, 1, 5, 46, 0, fun _ => ptF p⟩), (9002, sg6O x.2 x.1)], c⟩) (fun x => x.1 = opnS bin ++ nameS t ++ T.sigL t.kind true (t.kidsT.take i) ++ orS t.kind (decide (i = 0))) (fun NhJ15 hJ15 => ?_) (fun x c hx => ?_)
        · skip
          refine srg fun N h16 => ?_
          refine st0 (hop_fa fd_46_0 rfl) rfl rfl ?_
          refine st1 (hol_load ty_3 rfl (nb rfl) (nb rfl) (fun h => (by rfl))) rfl rfl rfl ?_
          refine st0 (hop_eql rfl rfl) rfl rfl ?_
          refine stm rfl rfl rfl ?_
          refine stg 48 (fun hb => hop_move rfl) rfl rfl rfl rfl rfl ?_
          refine stg 48 (fun hb => hop_gtr rfl rfl) rfl rfl rfl rfl rfl ?_
          refine hq_p 51 (hstep_and _ _ rfl rfl rfl) rfl rfl rfl ?_
          refine hseq_nilU (by rfl) (by simp only [dropUn, slots]; exact rfl) ?_
          refine h16 _ ?_
          refine hw_cond _ rfl (fun hc3 => ?_) (fun hc3 => ?_)
          · have hr3 := hc3; (try simp only [hcs, Int.reduceToNat] at hc3)
            refine hw_region ?_
            refine stm rfl rfl rfl ?_
            refine st0 (hop_build (hs := [(0, 1, _)]) st_80 rfl rfl ⟨rfl, rfl, rfl, rfl, rfl, trivial⟩) rfl rfl ?_
            refine hm_1 54 (hop_buildSlice (id := 54) (hs := [_]) ei_76 (nb rfl) rfl (nb rfl) ⟨rfl, rfl, rfl, rfl, trivial⟩) rfl rfl pre0 rfl rfl (c' := c + 1) rfl ?_
            refine hm_1 55 (hol_append ei_76 (nb rfl) rfl (by omega) (nb rfl) (srl_os0 rfl (nb rfl)) (by omega) rfl) rfl rfl (preC rfl (pre1 rfl)) rfl rfl (c' := c + 2) rfl ?_
            refine sta rfl rfl rfl ?_
            refine hseq_nil ?_
            exact hJ15 ((o ++ [⟨4, 0, 0, 0, []⟩], c + 1)) _ _ (by (try dsimp only); rw [hoo]; unfold orS; rw [if_pos ⟨by rw [← hpk]; exact hc3.1, decide_eq_false (by omega)⟩]) (hsub_of rfl (Nat.le_refl _) (TmSub.cons rfl (Sb.refl _) (TmSub.cons rfl (Sb.refl _) (TmSub.cons rfl (Sb.refl _) (TmSub.cons rfl (sb_os (by simp)) (TmSub.cons rfl (Sb.refl _) (TmSub.cons rfl (Sb.refl _) (TmSub.cons rfl (Sb.refl _) TmSub.nil))))))) (HpSub.cons rfl (.refl _) (HpSub.cons rfl (sb_sgn (x := ⟨4, 0, 0, 0, []⟩) rfl rfl) HpSub.nil)))
          have hr3 := hc3; (try simp only [hcs, Int.reduceToNat] at hc3)
          refine hw_skip ?_
          exact hJ15 ((o, g)) _ _ (by (try dsimp only); rw [hoo]; unfold orS; rw [if_neg (fun h => by have h1 := of_decide_eq_false h.2; have h2 := hr3; rw [hpk, h.1] at h2; simp at h2; omega), List.append_nil]) (hsub_of rfl (Nat.le_refl _) (TmSub.cons rfl (Sb.refl _) (TmSub.cons rfl (Sb.refl _) (TmSub.cons rfl (Sb.refl _) (TmSub.cons rfl (Sb.refl _) (TmSub.cons rfl (Sb.refl _) (TmSub.cons rfl (Sb.refl _) (TmSub.cons rfl (Sb.refl _) TmSub.nil))))))) (HpSub.cons rfl (OSub.refl _) (HpSub.cons rfl (OSub.refl _) HpSub.nil)))
        · skip
          revert hx; obtain ⟨o, g⟩ := x; intro hx; dsimp only at hx ⊢
          have hor := or_len t.kind (decide (i = 0)); have hol2 : o.length ≤ 200000 := (by rw [hx]; simp only [List.length_append]; omega)
          refine hd_start ?_
          refine hd_q 56 (hop_move rfl) rfl rfl pre0 rfl rfl (k' := 1) rfl ?_
          refine hd_q 57 (hop_move rfl) rfl rfl pre0 rfl rfl (k' := 2) rfl ?_
          refine hd_q 58 (hop_fa fd_46_4 rfl) rfl rfl pre0 rfl rfl (k' := 3) rfl ?_
          refine hd_q 59 (HOp.val (v' := kidsV p.kids) (hol_load ty_44 rfl (nb rfl) (nb rfl) (fun h => (by rfl))) (rfl)) rfl rfl (pre1 rfl) rfl rfl (k' := 4) rfl ?_
          refine hd_q 60 (hop_move rfl) rfl rfl pre0 rfl rfl (k' := 5) rfl ?_
          refine hd_q 61 (hop_ia_sl el_44 rfl rfl (by omega) (by omega) (nb rfl)) rfl rfl pre0 rfl rfl (k' := 6) rfl ?_
          refine hd_q 62 (HOp.val (v' := intV ((b + T.sizeL (t.kidsT.take i) + (t.kidsT.getD i default).size - 1 : Nat) : Int)) (hop_load_fp ty_3 rfl (nb rfl) (fun h => (by rfl))) (by exact kids_at (i := i) (by omega) (by rw [hkid, hroot]; unfold T.root; omega))) rfl rfl pre0 rfl rfl (k' := 7) rfl ?_
          refine hd_q 63 (hop_move rfl) rfl rfl pre0 rfl rfl (k' := 8) rfl ?_
          refine hd_q 64 (hop_eql rfl rfl) rfl rfl pre0 rfl rfl (k' := 9) rfl ?_
          refine hd_q 65 (hop_move rfl) rfl rfl pre0 rfl rfl (k' := 10) rfl ?_
          refine hd_g 66 9 65 false _ (fun hb => hop_move rfl) rfl rfl rfl rfl pre0 rfl rfl rfl (k' := 11) rfl ?_
          refine hd_g 67 9 65 false _ (fun hb => hop_eql rfl rfl) rfl rfl rfl rfl pre0 rfl rfl rfl (k' := 12) rfl ?_
          refine hd_g 68 9 65 false _ (fun hb => hop_move rfl) rfl rfl rfl rfl pre0 rfl rfl rfl (k' := 13) rfl ?_
          refine hd_g2 69 12 68 _ _ true _ (fun hb => hop_fa fd_46_0 rfl) rfl rfl rfl rfl pre0 rfl (k' := 14) rfl ?_
          refine hd_g2 70 12 68 _ _ true _ (fun hb => hol_load ty_3 rfl (nb rfl) (nb rfl) (fun h => (by rfl))) rfl rfl rfl rfl (pre1 rfl) rfl (k' := 15) rfl ?_
          refine hd_g2 71 12 68 _ _ true _ (fun hb => hop_neq rfl rfl) rfl rfl rfl rfl pre0 rfl (k' := 16) rfl ?_
          refine hd_pg 72 (hstep_andg (gi := 9) (j := 65) _ _ rfl rfl rfl rfl) rfl rfl (k' := 17) rfl ?_
          refine hd_p 73 (hstep_or _ _ rfl rfl rfl) rfl rfl rfl (k' := 18) rfl ?_
          refine hd_q 74 (hop_move rfl) rfl rfl pre0 rfl rfl (k' := 19) rfl ?_
          refine hd_g 75 18 74 false _ (fun hb => hop_move rfl) rfl rfl rfl rfl pre0 rfl rfl rfl (k' := 20) rfl ?_
          refine hd_g 76 18 74 false _ (fun hb => hop_eql rfl rfl) rfl rfl rfl rfl pre0 rfl rfl rfl (k' := 21) rfl ?_
          refine hd_g 77 18 74 false _ (fun hb => hop_move rfl) rfl rfl rfl rfl pre0 rfl rfl rfl (k' := 22) rfl ?_
          refine hd_g2 78 21 77 _ _ true _ (fun hb => hop_fa fd_46_0 rfl) rfl rfl rfl rfl pre0 rfl (k' := 23) rfl ?_
          refine hd_g2 79 21 77 _ _ true _ (fun hb => hol_load ty_3 rfl (nb rfl) (nb rfl) (fun h => (by rfl))) rfl rfl rfl rfl (pre1 rfl) rfl (k' := 24) rfl ?_
          refine hd_g2 80 21 77 _ _ true _ (fun hb => hop_eql rfl rfl) rfl rfl rfl rfl pre0 rfl (k' := 25) rfl ?_
          refine hd_pg 81 (hstep_andg (gi := 18) (j := 74) _ _ rfl rfl rfl rfl) rfl rfl (k' := 26) rfl ?_
          refine hd_p 82 (hstep_or _ _ rfl rfl rfl) rfl rfl rfl (k' := 27) rfl ?_
          refine hd_q 83 (hop_call0 (xs := [_, _, _]) (ih i him (inB t.kind (t.kidsT.getD i default).kind)) ⟨rfl, ⟨rfl, ⟨rfl, trivial⟩⟩⟩ ⟨(Fz.eq rfl), ⟨(Fz.eq rfl), ⟨(fz_bool (by rw [← hdoc, ← hpk]; simp only [beq_d, Bool.not_eq_true, bne])), trivial⟩⟩⟩) rfl rfl pre0 rfl rfl (k' := 28) rfl ?_
          refine hd_1 84 (hol_append ei_76 (nb rfl) rfl (by omega) (nb rfl) (src_sl rfl) (by omega) rfl) rfl rfl (preC rfl pre0) rfl rfl (k' := 29) rfl ?_
          refine hd_q 7 (hop_assign rfl) rfl rfl pre0 rfl rfl (k' := 30) rfl ?_
          refine hd_nil (by kernel_rfl) (by kernel_rfl) (c' := c + 30) rfl ?_
          refine hq_block ?_
          refine h13 _ ?_
          refine hw_region ?_
          refine stm rfl rfl rfl ?_
          refine st0 (hop_addi rfl rfl rfl (by omega) (by omega)) rfl rfl ?_
          refine sta rfl rfl rfl ?_
          refine hseq_nil ?_
          exact hL10 ((i + 1, o ++ wrapS (inB t.kind (t.kidsT.getD i default).kind) (t.kidsT.getD i default).sig, c + 28)) _ _ (by (try dsimp only); exact ⟨by omega, by rw [hx, sigL_take t.kind t.kidsT i him]; simp only [List.append_assoc]⟩) (by (try dsimp only); omega) (hsub_of rfl (Nat.le_refl _) (TmSub.cons rfl (Sb.refl _) (TmSub.cons rfl (Sb.refl _) (TmSub.cons rfl (Sb.refl _) (TmSub.cons rfl (by dsimp only; exact sb_os (by rw [List.length_append])) (TmSub.cons rfl (Sb.refl _) (TmSub.cons rfl (Sb.refl _) TmSub.nil)))))) (HpSub.cons rfl (.refl _) (HpSub.cons rfl (by dsimp only; exact sb_sgcat (out := o) (k := wrapS (inB t.kind (t.kidsT.getD i default).kind) (t.kidsT.getD i default).sig) rfl rfl rfl) HpSub.nil)))
      have hr2 := hc2; (try simp only [hcs, Int.reduceToNat] at hc2)
      have hit : i = t.kidsT.length := (by have h := hr2; simp [hkid, hrl] at h; omega)
      refine hw_exit ?_
      refine hq_then_exit ?_
      refine hq_then_exit ?_
      refine hq_block_here ?_
      refine h8 _ ?_
      refine hw_joinc (α := List Sg × Nat) (fun x c => ⟨102, [(2, .v (boolV bin)), (7, .v (.os 9002 x.2 0 x.1.length)), (8, .v (.pt 8 0 0 0))], [(8, ⟨0, 1, 5, 46, 0, fun _ => ptF p⟩), (9002, sg6O x.2 x.1)], c⟩) (fun x => x.1 = opnS bin ++ t.sig) (fun NhJ17 hJ17 => ?_) (fun x c hx => ?_)
      · skip
        refine srg fun N h18 => ?_
        refine st0 (hop_fa fd_46_0 rfl) rfl rfl ?_
        refine st1 (hol_load ty_3 rfl (nb rfl) (nb rfl) (fun h => (by rfl))) rfl rfl rfl ?_
        refine st0 (hop_eql rfl rfl) rfl rfl ?_
        refine snl h18 ?_
        refine hw_cond _ rfl (fun hc4 => ?_) (fun hc4 => ?_)
        · have hr4 := hc4; (try simp only [hcs, Int.reduceToNat] at hc4)
          refine hw_region ?_
          refine stm rfl rfl rfl ?_
          refine st0 (hop_fa fd_46_1 rfl) rfl rfl ?_
          refine st1 (hol_load ty_3 rfl (nb rfl) (nb rfl) (fun h => (by rfl))) rfl rfl rfl ?_
          refine st0 (hop_fa fd_46_2 rfl) rfl rfl ?_
          refine st1 (hol_load ty_3 rfl (nb rfl) (nb rfl) (fun h => (by rfl))) rfl rfl rfl ?_
          refine st0 (hop_build (hs := [(0, 1, _), (2, 1, _), (3, 1, _)]) st_80 rfl rfl ⟨rfl, rfl, rfl, rfl, rfl, ⟨rfl, rfl, rfl, rfl, rfl, ⟨rfl, rfl, rfl, rfl, rfl, trivial⟩⟩⟩) rfl rfl ?_
          refine hm_1 94 (hop_buildSlice (id := 94) (hs := [_]) ei_76 (nb rfl) rfl (nb rfl) ⟨rfl, rfl, rfl, rfl, trivial⟩) rfl rfl pre0 rfl rfl (c' := c + 1) rfl ?_
          refine hm_1 95 (hol_append ei_76 (nb rfl) rfl (by omega) (nb rfl) (srl_os0 rfl (nb rfl)) (by omega) rfl) rfl rfl (preC rfl (pre1 rfl)) rfl rfl (c' := c + 2) rfl ?_
          refine sta rfl rfl rfl ?_
          refine hseq_nil ?_
          exact hJ17 ((o ++ [⟨5, 0, p.low, p.high, []⟩], c + 1)) _ _ (by (try dsimp only); rw [hoo, hit, List.take_length, hsk, times_top (b := b) hok (by rw [htp]; exact hc4), htp]; simp only [List.append_assoc]) (hsub_of rfl (Nat.le_refl _) (TmSub.cons rfl (Sb.refl _) (TmSub.cons rfl (sb_os (by simp)) (TmSub.cons rfl (Sb.refl _) TmSub.nil))) (HpSub.cons rfl (.refl _) (HpSub.cons rfl (sb_sgn (x := ⟨5, 0, p.low, p.high, []⟩) rfl rfl) HpSub.nil)))
        have hr4 := hc4; (try simp only [hcs, Int.reduceToNat] at hc4)
        refine hw_skip ?_
        exact hJ17 ((o, g)) _ _ (by (try dsimp only); rw [hoo, hit, List.take_length, hsk, times_not (b := b) (by rw [htp]; exact hc4)]; simp only [List.append_assoc, List.append_nil]) (hsub_of rfl (Nat.le_refl _) (TmSub.cons rfl (Sb.refl _) (TmSub.cons rfl (Sb.refl _) (TmSub.cons rfl (Sb.refl _) TmSub.nil))) (HpSub.cons rfl (OSub.refl _) (HpSub.cons rfl (OSub.refl _) HpSub.nil)))
      · skip
        revert hx; obtain ⟨o, g⟩ := x; intro hx; dsimp only at hx ⊢
        have hol2 : o.length ≤ 200000 := (by rw [hx]; simp only [List.length_append]; omega)
        refine hw_joinc (α := List Sg × Nat) (fun x c => ⟨102, [(7, .v (.os 9002 x.2 0 x.1.length))], [(9002, sg6O x.2 x.1)], c⟩) (fun x => x.1 = wrapS bin t.sig) (fun NhJ19 hJ19 => ?_) (fun x c hx => ?_)
        · skip
          refine srg fun N h20 => ?_
          refine stm rfl rfl rfl ?_
          refine snl h20 ?_
          refine hw_cond _ rfl (fun hc5 => ?_) (fun hc5 => ?_)
          · have hr5 := hc5; (try simp only [hcs, Int.reduceToNat] at hc5)
            refine hw_region ?_
            refine stm rfl rfl rfl ?_
            refine st0 (hop_build (hs := [(0, 1, _)]) st_80 rfl rfl ⟨rfl, rfl, rfl, rfl, rfl, trivial⟩) rfl rfl ?_
            refine hm_1 99 (hop_buildSlice (id := 99) (hs := [_]) ei_76 (nb rfl) rfl (nb rfl) ⟨rfl, rfl, rfl, rfl, trivial⟩) rfl rfl pre0 rfl rfl (c' := c + 1) rfl ?_
            refine hm_1 100 (hol_append ei_76 (nb rfl) rfl (by omega) (nb rfl) (srl_os0 rfl (nb rfl)) (by omega) rfl) rfl rfl (preC rfl (pre1 rfl)) rfl rfl (c' := c + 2) rfl ?_
            refine sta rfl rfl rfl ?_
            refine hseq_nil ?_
            exact hJ19 ((o ++ [⟨3, 0, 0, 0, []⟩], c + 1)) _ _ (by (try dsimp only); rw [hx, wrap_eq]; unfold clsS; rw [if_pos hc5]) (hsub_of rfl (Nat.le_refl _) (TmSub.cons rfl (sb_os (by simp)) TmSub.nil) (HpSub.cons rfl (sb_sgn (x := ⟨3, 0, 0, 0, []⟩) rfl rfl) HpSub.nil))
          have hr5 := hc5; (try simp only [hcs, Int.reduceToNat] at hc5)
          refine hw_skip ?_
          exact hJ19 ((o, g)) _ _ (by (try dsimp only); rw [hx, wrap_eq]; unfold clsS; rw [if_neg (by rw [hc5]; decide), List.append_nil]) (hsub_of rfl (Nat.le_refl _) (TmSub.cons rfl (Sb.refl _) TmSub.nil) (HpSub.cons rfl (OSub.refl _) HpSub.nil))
        · skip
          revert hx; obtain ⟨o, g⟩ := x; intro hx; dsimp only at hx ⊢
          refine srg fun N h21 => ?_
          refine stm rfl rfl rfl ?_
          refine sta rfl rfl rfl ?_
          refine snl h21 ?_
          refine hw_ret ?_
          refine hq_ret1 rfl (rval_tmp rfl) [(9002, _)] rfl (preC rfl pre0) ?_
          rw [← hx]; exact fz_row (l := o) (enc := sgF) (d := default) (List.mem_cons_self ..) rfl rfl (Nat.le_refl _) (fun i j hi hj => sg_fz _ j)
end Go.Proofs.YtmcchhmgchgaaaaDoor

namespace Go.Proofs.YtmcchhmgchgaaaaDoor
set_option linter.unusedSimpArgs false
set_option linter.unusedVariables false
set_option maxRecDepth 100000
set_option maxHeartbeats 1000000
open Go.RowKit

@[reducible] def nmsF (ls : List (List UInt8)) : Nat → Nat → HV := fun i _ => strV (ls.getD i [])
@[reducible] def nmsV (ls : List (List UInt8)) : HV := .sl 1 ls.length (nmsF ls)
@[reducible] def nmsO (g : Nat) (ls : List (List UInt8)) : HObj := ⟨g, ls.length, 1, 9, 0, nmsF ls⟩
@[reducible] def boxS (g g2 n : Nat) : HObj := ⟨g, 1, 1, 33, 0, fun _ _ => .os 8001 g2 0 n⟩
instance frz_nmsV (l : List (List UInt8)) : Frz (nmsV l) := ⟨.sl _ _ _ _ fun i j _ _ => .imm _⟩
theorem okz_nms {kp sh : List (Nat × HObj)} {g : Nat} {l : List (List UInt8)} : OKz kp sh (nmsO g l) (nmsO g l) := .of fun i j _ _ => .fz _ _ (.imm _)
theorem sameS_h (a b : List (List UInt8)) (ha : a.length ≤ 1000000) : HPure Tryd.prog 20 [nmsV a, nmsV b] (boolV (decide (a = b))) := by
  refine hpure_of Tryd.func20 rfl (by kernel_rfl) _ _ _ rfl 26 rfl rfl (fun w F => ?_)
  refine srg fun N h1 => ?_
  refine sta rfl rfl rfl ?_
  refine snl h1 ?_
  refine hw_seq (fun Nh2 h2 => ?_)
  refine srg fun N h3 => ?_
  refine stm rfl rfl rfl ?_
  refine st0 (hop_len_sl (T := 33) rfl (elOf_spec el_33).1 rfl) rfl rfl ?_
  refine stm rfl rfl rfl ?_
  refine st0 (hop_len_sl (T := 33) rfl (elOf_spec el_33).1 rfl) rfl rfl ?_
  refine st0 (hop_neq rfl rfl) rfl rfl ?_
  refine snl h3 ?_
  refine hw_cond _ rfl (fun hc0 => ?_) (fun hc0 => ?_)
  · have hr0 := hc0; (try simp only [hcs, Int.reduceToNat] at hc0)
    refine srg fun N h4 => ?_
    refine sta rfl rfl rfl ?_
    refine snl h4 ?_
    refine hw_ret ?_
    refine hq_then_ret ?_
    refine hq_ret1 rfl (rval_tmp rfl) [] rfl pre0 ?_
    exact fz_bool (by symm; simp only [decide_eq_false_iff_not]; intro h; subst h; omega)
  have hr0 := hc0; (try simp only [hcs, Int.reduceToNat] at hc0)
  refine hw_skip ?_
  refine h2 _ ?_
  refine hw_seq (fun Nh5 h5 => ?_)
  refine srg fun N h6 => ?_
  refine sta rfl rfl rfl ?_
  refine snl h6 ?_
  refine hw_block ?_
  refine hw_loopc (α := Nat) (fun x c => ⟨26, [(0, .v (nmsV a)), (1, .v (nmsV b)), (5, .v (intV x))], [], c⟩) (fun x => x ≤ a.length ∧ a.length = b.length ∧ ∀ i, i < x → a.getD i [] = b.getD i []) (fun x => a.length - x) (0) (by exact ⟨Nat.zero_le _, by omega, fun i h => absurd h (Nat.not_lt_zero _)⟩) (hsub_of rfl (Nat.le_refl _) (TmSub.cons rfl (Sb.refl _) (TmSub.cons rfl (Sb.refl _) (TmSub.cons rfl (Sb.refl _) TmSub.nil))) HpSub.nil) (fun k c hx NhL7 hL7 => ?_)
  (try dsimp only at hx hL7 ⊢)
  obtain ⟨hk, hab, hok⟩ := hx
  refine hw_seq (fun Nh8 h8 => ?_)
  refine srg fun N h9 => ?_
  refine stm rfl rfl rfl ?_
  refine stm rfl rfl rfl ?_
  refine st0 (hop_len_sl (T := 33) rfl (elOf_spec el_33).1 rfl) rfl rfl ?_
  refine st0 (hop_lss rfl rfl) rfl rfl ?_
  refine snl h9 ?_
  refine hw_cond _ rfl (fun hc1 => ?_) (fun hc1 => ?_)
  · have hr1 := hc1; (try simp only [hcs, Int.reduceToNat] at hc1)
    refine hw_skip ?_
    refine h8 _ ?_
    refine hw_seq (fun Nh10 h10 => ?_)
    refine hw_block ?_
    refine hw_seq (fun Nh11 h11 => ?_)
    refine hd_start ?_
    refine hd_q 17 (hop_move rfl) rfl rfl pre0 rfl rfl (k' := 1) rfl ?_
    refine hd_q 18 (hop_move rfl) rfl rfl pre0 rfl rfl (k' := 2) rfl ?_
    refine hd_q 19 (hop_ia_sl el_33 rfl rfl (by omega) (by omega) (nb rfl)) rfl rfl pre0 rfl rfl (k' := 3) rfl ?_
    refine hd_q 20 (hop_load_fp ty_9 rfl (nb rfl) (fun h => (by rfl))) rfl rfl pre0 rfl rfl (k' := 4) rfl ?_
    refine hd_q 21 (hop_move rfl) rfl rfl pre0 rfl rfl (k' := 5) rfl ?_
    refine hd_q 22 (hop_move rfl) rfl rfl pre0 rfl rfl (k' := 6) rfl ?_
    refine hd_q 23 (hop_ia_sl el_33 rfl rfl (by omega) (by omega) (nb rfl)) rfl rfl pre0 rfl rfl (k' := 7) rfl ?_
    refine hd_q 24 (hop_load_fp ty_9 rfl (nb rfl) (fun h => (by rfl))) rfl rfl pre0 rfl rfl (k' := 8) rfl ?_
    refine hd_q 25 (hop_sne_l rfl rfl) rfl rfl pre0 rfl rfl (k' := 9) rfl ?_
    refine hd_nil (by kernel_rfl) (by kernel_rfl) (c' := c + 9) rfl ?_
    refine h11 _ ?_
    refine hw_cond _ rfl (fun hc2 => ?_) (fun hc2 => ?_)
    · have hr2 := hc2; (try simp only [hcs, Int.reduceToNat] at hc2)
      refine srg fun N h12 => ?_
      refine sta rfl rfl rfl ?_
      refine snl h12 ?_
      refine hw_ret ?_
      refine hq_block_ret ?_
      refine hq_then_ret ?_
      refine hq_then_ret ?_
      refine hq_block_ret ?_
      refine hq_then_ret ?_
      refine hq_ret1 rfl (rval_tmp rfl) [] rfl pre0 ?_
      exact fz_bool (by symm; simp only [decide_eq_false_iff_not]; intro h; subst h; simp at hc2)
    have hr2 := hc2; (try simp only [hcs, Int.reduceToNat] at hc2)
    refine hw_skip ?_
    refine hq_block ?_
    refine h10 _ ?_
    refine hw_region ?_
    refine stm rfl rfl rfl ?_
    refine st0 (hop_addi rfl rfl rfl (by omega) (by omega)) rfl rfl ?_
    refine sta rfl rfl rfl ?_
    refine hseq_nil ?_
    exact hL7 (k + 1) _ _ (by (try dsimp only); exact ⟨by omega, hab, fun i hi => by rcases Nat.lt_or_ge i k with h | h; exact hok i h; have : i = k := (by omega); subst this; simpa using hc2⟩) (by (try dsimp only); omega) (hsub_of rfl (Nat.le_refl _) (TmSub.cons rfl (Sb.refl _) (TmSub.cons rfl (Sb.refl _) (TmSub.cons rfl (Sb.refl _) TmSub.nil))) HpSub.nil)
  have hr1 := hc1; (try simp only [hcs, Int.reduceToNat] at hc1)
  refine hw_exit ?_
  refine hq_then_exit ?_
  refine hq_then_exit ?_
  refine hq_block_here ?_
  refine h5 _ ?_
  refine srg fun N h13 => ?_
  refine sta rfl rfl rfl ?_
  refine snl h13 ?_
  refine hw_ret ?_
  refine hq_ret1 rfl (rval_tmp rfl) [] rfl pre0 ?_
  exact fz_bool (by symm; simp only [decide_eq_true_eq]; exact ext_getD [] hab (fun i h1 => hok i (by omega)))
/-- The first place of a text. -/
def idxS (l : List (List UInt8)) (s : List UInt8) : Int := if s ∈ l then (l.idxOf s : Int) else -1
theorem idx_of {l : List (List UInt8)} {s : List UInt8} {k : Nat} (hk : k < l.length) (h : l.getD k [] = s) (hn : ∀ i, i < k → l.getD i [] ≠ s) : idxS l s = (k : Int) := by
  have hk' : l[k] = s := by rwa [List.getD_eq_getElem?_getD, List.getElem?_eq_getElem hk] at h
  have hm : s ∈ l := by rw [← hk']; exact List.getElem_mem hk
  unfold idxS
  rw [if_pos hm]
  congr 1
  have hi := List.idxOf_lt_length_of_mem hm
  have hgi : l[l.idxOf s] = s := List.getElem_idxOf hi
  rcases Nat.lt_trichotomy (l.idxOf s) k with h1 | h1 | h1
  · exact absurd (by rw [List.getD_eq_getElem?_getD, List.getElem?_eq_getElem hi]; exact hgi) (hn _ h1)
  · exact h1
  · have := List.not_of_lt_findIdx (p := (· == s)) (xs := l) (i := k) h1
    simp [hk'] at this
theorem idx_no {l : List (List UInt8)} {s : List UInt8} (hn : ∀ i, i < l.length → l.getD i [] ≠ s) : idxS l s = -1 := by
  unfold idxS
  rw [if_neg]
  intro hm
  obtain ⟨i, hi, h⟩ := List.mem_iff_getElem.1 hm
  exact hn i hi (by rw [List.getD_eq_getElem?_getD, List.getElem?_eq_getElem hi]; exact h)
theorem idx_mem (l : List (List UInt8)) (s : List UInt8) : decide (0 ≤ idxS l s) = decide (s ∈ l) := by
  unfold idxS
  by_cases h : s ∈ l
  · rw [if_pos h, decide_eq_true h, decide_eq_true (by omega)]
  · rw [if_neg h, decide_eq_false h]; rfl
theorem index_h (g : Nat) (l : List (List UInt8)) (s : List UInt8) (hl : l.length ≤ 1000000) : HFunD Tryd.prog 71 [.os 8001 g 0 l.length, strV s] [(8001, nmsO g l)] (intV (idxS l s)) [(8001, nmsO g l)] := by
  intro c
  refine hfun_of Tryd.func71 rfl (by kernel_rfl) _ _ _ _ rfl 19 rfl rfl (fun X ok hX => ?_)
  refine srg fun N h1 => ?_
  refine sta rfl rfl rfl ?_
  refine snl h1 ?_
  refine hw_seq (fun Nh2 h2 => ?_)
  refine srg fun N h3 => ?_
  refine stm rfl rfl rfl ?_
  refine st0 (hop_len_os (T := 33) rfl (elOf_spec el_33).1 rfl) rfl rfl ?_
  refine stm rfl rfl rfl ?_
  refine snl h3 ?_
  refine hw_block ?_
  refine hw_loopc (α := Nat) (fun x c => ⟨19, [(0, .v (.os 8001 g 0 l.length)), (1, .v (strV s)), (7, .v (intV l.length)), (8, .v (intV x))], [(8001, nmsO g l)], c⟩) (fun x => x ≤ l.length ∧ ∀ i, i < x → l.getD i [] ≠ s) (fun x => l.length - x) (0) (by exact ⟨Nat.zero_le _, fun i h => absurd h (Nat.not_lt_zero _)⟩) (hsub_of rfl (Nat.le_refl _) (TmSub.cons rfl (Sb.refl _) (TmSub.cons rfl (Sb.refl _) (TmSub.cons rfl (Sb.refl _) (TmSub.cons rfl (Sb.refl _) TmSub.nil)))) (HpSub.cons rfl (OSub.refl _) HpSub.nil)) (fun k c hx NhL4 hL4 => ?_)
  (try dsimp only at hx hL4 ⊢)
  obtain ⟨hk, hE⟩ := hx
  refine srg fun N h5 => ?_
  refine st0 (hop_lss rfl rfl) rfl rfl ?_
  refine snl h5 ?_
  refine hw_seq (fun Nh6 h6 => ?_)
  refine hw_cond _ rfl (fun hc0 => ?_) (fun hc0 => ?_)
  · have hr0 := hc0; (try simp only [hcs, Int.reduceToNat] at hc0)
    refine hw_skip ?_
    refine h6 _ ?_
    refine hw_seq (fun Nh7 h7 => ?_)
    refine hw_block ?_
    refine srg fun N h8 => ?_
    refine stm rfl rfl rfl ?_
    refine sta rfl rfl rfl ?_
    refine snl h8 ?_
    refine srg fun N h9 => ?_
    refine stm rfl rfl rfl ?_
    refine stm rfl rfl rfl ?_
    refine stm rfl rfl rfl ?_
    refine st1 (hol_ia_os el_33 rfl rfl (by omega) (by omega)) rfl rfl rfl ?_
    refine st1 (HOp.val (v' := strV (l.getD k [])) (hol_load ty_9 rfl (by omega) (nb rfl) (fun h => (by rfl))) (by simp only [Nat.zero_add]; rfl)) rfl rfl rfl ?_
    refine st0 (hop_seq_l rfl rfl) rfl rfl ?_
    refine snl h9 ?_
    refine hw_cond _ rfl (fun hc1 => ?_) (fun hc1 => ?_)
    · have hr1 := hc1; (try simp only [hcs, Int.reduceToNat] at hc1)
      have hks : l.getD k [] = s := (by have h := hr1; simpa [eq_comm] using h)
      refine srg fun N h10 => ?_
      refine stm rfl rfl rfl ?_
      refine sta rfl rfl rfl ?_
      refine snl h10 ?_
      refine hw_ret ?_
      refine hq_block_ret ?_
      refine hq_then_ret ?_
      refine hq_then_ret ?_
      refine hq_block_ret ?_
      refine hq_then_ret ?_
      refine hf_retR1 ok hX RetS.one rfl (rval_tmp rfl) [] rfl pre0 (()) (trivial) (by rfl) (by rfl) (by rw [idx_of (by omega) hks hE]; exact (by first | exact .fz _ _ (.imm _) | exact .os _ _ _ _ _ rfl rfl | exact .pt _ _ _ _ _ rfl rfl | exact .nps _ _ _ rfl rfl | (dsimp only; exact .fz _ _ Frz.fz) | exact .fz _ _ (.tup 0 _ _ (fun i hi => absurd hi (Nat.not_lt_zero _))))) ?_
      exact ⟨⟨_, rfl, okz_nms⟩, trivial⟩
    have hr1 := hc1; (try simp only [hcs, Int.reduceToNat] at hc1)
    refine hw_skip ?_
    refine hq_block ?_
    refine h7 _ ?_
    refine hw_region ?_
    refine st0 (hop_addi rfl rfl rfl (by omega) (by omega)) rfl rfl ?_
    refine stm rfl rfl rfl ?_
    refine hseq_nil ?_
    exact hL4 (k + 1) _ _ (by (try dsimp only); exact ⟨by omega, fun i hi => by by_cases e : i = k; (· subst e; exact fun h => by rw [h] at hr1; simp at hr1); exact hE i (by omega)⟩) (by (try dsimp only); omega) (hsub_of rfl (Nat.le_refl _) (TmSub.cons rfl (Sb.refl _) (TmSub.cons rfl (Sb.refl _) (TmSub.cons rfl (Sb.refl _) (TmSub.cons rfl (Sb.refl _) TmSub.nil)))) (HpSub.cons rfl (OSub.refl _) HpSub.nil))
  have hr0 := hc0; (try simp only [hcs, Int.reduceToNat] at hc0)
  refine hw_exit ?_
  refine hq_then_exit ?_
  refine hq_then_exit ?_
  refine hq_block_here ?_
  refine h2 _ ?_
  refine srg fun N h11 => ?_
  refine sta rfl rfl rfl ?_
  refine snl h11 ?_
  refine hw_ret ?_
  refine hf_retR1 ok hX RetS.one rfl (rval_tmp rfl) [] rfl pre0 (()) (trivial) (by rfl) (by rfl) (by rw [idx_no (fun i hi => hE i (by omega))]; exact (by first | exact .fz _ _ (.imm _) | exact .os _ _ _ _ _ rfl rfl | exact .pt _ _ _ _ _ rfl rfl | exact .nps _ _ _ rfl rfl | (dsimp only; exact .fz _ _ Frz.fz) | exact .fz _ _ (.tup 0 _ _ (fun i hi => absurd hi (Nat.not_lt_zero _))))) ?_
  exact ⟨⟨_, rfl, okz_nms⟩, trivial⟩
theorem contains_h (g : Nat) (l : List (List UInt8)) (s : List UInt8) (hl : l.length ≤ 1000000) : HFunD Tryd.prog 53 [.os 8001 g 0 l.length, strV s] [(8001, nmsO g l)] (boolV (decide (s ∈ l))) [(8001, nmsO g l)] := by
  intro c
  refine hfun_of Tryd.func53 rfl (by kernel_rfl) _ _ _ _ rfl 9 rfl rfl (fun X ok hX => ?_)
  refine srg fun N h1 => ?_
  refine sta rfl rfl rfl ?_
  refine snl h1 ?_
  refine srg fun N h2 => ?_
  refine stm rfl rfl rfl ?_
  refine stm rfl rfl rfl ?_
  refine hf_callR 7 (xs := [_, _]) (pre := [(8001, _)]) (index_h g l s hl _) ⟨rfl, ⟨rfl, trivial⟩⟩ (preC rfl pre0) rfl rfl (fun u c1 hx1 => ?_)
  (try dsimp only)
  refine st0 (hop_geq rfl rfl) rfl rfl ?_
  refine sta rfl rfl rfl ?_
  refine snl h2 ?_
  refine hw_ret ?_
  refine hf_retR1 ok hX RetS.one rfl (rval_tmp rfl) [] rfl pre0 (()) (trivial) (by rfl) (by rfl) (by rw [← idx_mem]; exact (by first | exact .fz _ _ (.imm _) | exact .os _ _ _ _ _ rfl rfl | exact .pt _ _ _ _ _ rfl rfl | exact .nps _ _ _ rfl rfl | (dsimp only; exact .fz _ _ Frz.fz) | exact .fz _ _ (.tup 0 _ _ (fun i hi => absurd hi (Nat.not_lt_zero _))))) ?_
  exact ⟨⟨_, rfl, okz_nms⟩, trivial⟩
theorem okz_nmsn {kp sh : List (Nat × HObj)} {l o' : List (List UInt8)} {x : List UInt8} {g n ty : Nat} {f : Nat → Nat → HV} (ho : l ++ [x] = o') (hn : n = l.length := by rfl) (h0 : f 0 0 = strV x := by rfl) : OKz kp sh ⟨g, n + 1, 1, ty, 0, cat n (nmsF l) f⟩ ⟨g, o'.length, 1, ty, 0, nmsF o'⟩ := by
  subst hn; subst ho
  refine ⟨rfl, by simp, rfl, rfl, Nat.le_refl _, fun i j hi hj => .fz _ _ ?_, fun h => absurd h (Nat.not_lt_zero _)⟩
  show Fz sh (cat l.length (nmsF l) f i j) (strV ((l ++ [x]).getD i []))
  by_cases h' : i < l.length
  · rw [cat_lt h', getD_app h']; exact .imm _
  · have hi' : i = l.length := by simp only at hi; omega
    subst hi'
    obtain rfl : j = 0 := by simp only at hj; omega
    rw [cat_ge (Nat.le_refl _), Nat.sub_self, getD_snoc, h0]; exact .imm _
theorem add_h (c g g2 : Nat) (l : List (List UInt8)) (s : List UInt8) (hl : l.length ≤ 100000) : HFun Tryd.prog 52 c [strV s, .pt 8002 g 0 0] [(8002, boxS g g2 l.length), (8001, nmsO g2 l)]
    (RetP (fun (_ : Nat) _ => True) (fun _ => .tup 0 fun _ => default) (fun g' => [(8002, boxS g g' (if s ∈ l then l else l ++ [s]).length), (8001, nmsO g' (if s ∈ l then l else l ++ [s]))])) := by
  refine hfun_of Tryd.func52 rfl (by kernel_rfl) _ _ _ _ rfl 11 rfl rfl (fun X ok hX => ?_)
  refine srg fun N h1 => ?_
  refine st1 (hol_load ty_33 rfl (nb rfl) (nb rfl) (fun h => (by rfl))) rfl rfl rfl ?_
  refine stm rfl rfl rfl ?_
  refine hq_ 5 (hop_funR (xs := [_, _]) (pre := [(8001, _)]) (contains_h g2 l s (by omega)) ⟨rfl, ⟨rfl, trivial⟩⟩) rfl rfl (preC rfl pre0) rfl rfl ?_
  refine st0 (hop_not rfl) rfl rfl ?_
  refine snl h1 ?_
  refine hw_cond _ rfl (fun hc0 => ?_) (fun hc0 => ?_)
  · have hr0 := hc0; (try simp only [hcs, Int.reduceToNat] at hc0)
    have hns : ¬ s ∈ l := (by have h := hr0; simpa using h)
    refine hw_region ?_
    refine st1 (hol_load ty_33 rfl (nb rfl) (nb rfl) (fun h => (by rfl))) rfl rfl rfl ?_
    refine stm rfl rfl rfl ?_
    refine hm_1 9 (hop_buildSlice (id := 9) (hs := [_]) ei_33 (nb rfl) rfl (nb rfl) ⟨rfl, rfl, rfl, rfl, trivial⟩) rfl rfl pre0 rfl rfl (c' := c + 1) rfl ?_
    refine hm_1 10 (hol_append ei_33 (nb rfl) rfl (by omega) (nb rfl) (srl_os0 rfl (nb rfl)) (by omega) rfl) rfl rfl (preC rfl (pre1 rfl)) rfl rfl (c' := c + 2) rfl ?_
    refine hm_s1 (hol_storeW ty_33 rfl rfl rfl rfl) rfl rfl (pre1 rfl) (c' := c + 3) rfl ?_
    refine hseq_nil ?_
    refine hq_fall ?_
    refine hf_retR0 ok hX RetS.one rfl  [] rfl pre0 ((c + 1)) (trivial) (by rfl) (by rfl) ((by first | exact .fz _ _ (.imm _) | exact .os _ _ _ _ _ rfl rfl | exact .pt _ _ _ _ _ rfl rfl | exact .nps _ _ _ rfl rfl | (dsimp only; exact .fz _ _ Frz.fz) | exact .fz _ _ (.tup 0 _ _ (fun i hi => absurd hi (Nat.not_lt_zero _))))) ?_
    exact ⟨⟨_, rfl, (by exact okz1 (kz_os rfl rfl (by rw [if_neg hns]; simp)))⟩, ⟨⟨_, rfl, (by exact okz_nmsn (x := s) (by rw [if_neg hns]))⟩, trivial⟩⟩
  have hr0 := hc0; (try simp only [hcs, Int.reduceToNat] at hc0)
  have hns : s ∈ l := (by have h := hr0; simpa using h)
  refine hw_skip ?_
  refine hq_fall ?_
  refine hf_retR0 ok hX RetS.one rfl  [] rfl pre0 (g2) (trivial) (by rfl) (by rfl) ((by first | exact .fz _ _ (.imm _) | exact .os _ _ _ _ _ rfl rfl | exact .pt _ _ _ _ _ rfl rfl | exact .nps _ _ _ rfl rfl | (dsimp only; exact .fz _ _ Frz.fz) | exact .fz _ _ (.tup 0 _ _ (fun i hi => absurd hi (Nat.not_lt_zero _))))) ?_
  exact ⟨⟨_, rfl, (by exact okz1 (kz_os rfl rfl (by rw [if_pos hns])))⟩, ⟨⟨_, rfl, (by rw [if_pos hns]; exact okz_nms)⟩, trivial⟩⟩
theorem names_take_add {e : List Pt} {i : Nat} (h : i < e.length) (hk : (e.getD i default).kind = 1) : namesV (e.take (i + 1)) = if (e.getD i default).name ∈ namesV (e.take i) then namesV (e.take i) else namesV (e.take i) ++ [(e.getD i default).name] := by
  rw [names_take h]
  unfold addN
  by_cases hm : (e.getD i default).name ∈ namesV (e.take i)
  · rw [if_neg (fun h => h.2 hm), if_pos hm]
  · rw [if_pos ⟨hk, hm⟩, if_neg hm]
theorem names_take_not {e : List Pt} {i : Nat} (h : i < e.length) (hk : ¬ (e.getD i default).kind = 1) : namesV (e.take (i + 1)) = namesV (e.take i) := by
  rw [names_take h]
  unfold addN
  rw [if_neg (fun h => hk h.1)]
theorem names_h (e : List Pt) (he : e.length ≤ 100000) : HPure Tryd.prog 29 [ptsV e] (nmsV (namesV e)) := by
  have hnl := fun i => names_len (e := e) i
  refine hpure_of Tryd.func29 rfl (by kernel_rfl) _ _ _ rfl 23 rfl rfl (fun w F => ?_)
  refine srg fun N h1 => ?_
  refine sta rfl rfl rfl ?_
  refine snl h1 ?_
  refine srg fun N h2 => ?_
  refine hm_1 3 (hop_alloc (id := 8002) (sz := 1) zc_33 rfl rfl (by decide) (by decide)) rfl rfl pre0 rfl rfl (c' := 1) rfl ?_
  refine snl h2 ?_
  refine hw_seq (fun Nh3 h3 => ?_)
  refine (hsub_ownc 8002 0 8001 1 9 (nmsF []) (fun _ _ => .os 8001 1 0 0) rfl rfl (fun j hj => .inl ⟨by omega, rfl⟩) (by decide) (by decide) (c' := 2) rfl).wp ?_
  refine hw_region ?_
  refine st0 (hop_makeFunc (hs := [_]) ⟨rfl, trivial⟩) rfl rfl ?_
  refine sta rfl rfl rfl ?_
  refine snl h3 ?_
  refine hw_seq (fun Nh4 h4 => ?_)
  refine srg fun N h5 => ?_
  refine stm rfl rfl rfl ?_
  refine st0 (hop_len_sl (T := 49) rfl (elOf_spec el_49).1 rfl) rfl rfl ?_
  refine stm rfl rfl rfl ?_
  refine snl h5 ?_
  refine hw_block ?_
  refine hw_loopc (α := Nat × Nat) (fun x c => ⟨23, [(3, .v (.pt 8002 0 0 0)), (4, .v (.fn (.func 52) 1 (fun q => [HV.pt 8002 0 0 0].getD q default))), (8, .v (ptsV e)), (9, .v (intV e.length)), (10, .v (intV x.1))], [(8002, boxS 0 x.2 (namesV (e.take x.1)).length), (8001, nmsO x.2 (namesV (e.take x.1)))], c⟩) (fun x => x.1 ≤ e.length) (fun x => e.length - x.1) ((0, 1)) (by exact Nat.zero_le _) (hsub_of rfl (Nat.le_refl _) (TmSub.cons rfl (Sb.refl _) (TmSub.cons rfl (Sb.refl _) (TmSub.cons rfl (Sb.refl _) (TmSub.cons rfl (Sb.refl _) (TmSub.cons rfl (Sb.refl _) TmSub.nil))))) (HpSub.cons rfl (OSub.refl _) (HpSub.cons rfl (OSub.refl _) HpSub.nil))) (fun x c hx NhL6 hL6 => ?_)
  revert hx hL6; obtain ⟨i, g⟩ := x; intro hx hL6; dsimp only at hx hL6 ⊢
  refine srg fun N h7 => ?_
  refine st0 (hop_lss rfl rfl) rfl rfl ?_
  refine snl h7 ?_
  refine hw_seq (fun Nh8 h8 => ?_)
  refine hw_cond _ rfl (fun hc0 => ?_) (fun hc0 => ?_)
  · have hr0 := hc0; (try simp only [hcs, Int.reduceToNat] at hc0)
    have hil : i < e.length := (by omega); have hnli := hnl i
    refine hw_skip ?_
    refine h8 _ ?_
    refine hw_seq (fun Nh9 h9 => ?_)
    refine hw_block ?_
    refine srg fun N h10 => ?_
    refine st0 (hop_ia_sl el_49 rfl rfl (by omega) (by omega) (nb rfl)) rfl rfl ?_
    refine st0 (hop_load_fp ty_75 rfl (nb rfl) (fun h => (by cases h))) rfl rfl ?_
    refine hm_1 6 (hop_alloc (id := 6) (sz := 5) zc_75 rfl rfl (nb rfl) (nb rfl)) rfl rfl pre0 rfl rfl (c' := c + 1) rfl ?_
    refine hm_s1 (hol_storeW ty_75 rfl rfl rfl rfl) rfl rfl (pre1 rfl) (c' := c + 2) rfl ?_
    refine snl h10 ?_
    refine srg fun N h11 => ?_
    refine st0 (hop_fa fd_75_0 rfl) rfl rfl ?_
    refine st1 (HOp.val (v' := intV (e.getD i default).kind) (hol_load ty_3 rfl (nb rfl) (nb rfl) (fun h => (by rfl))) (rfl)) rfl rfl rfl ?_
    refine st0 (hop_eql rfl rfl) rfl rfl ?_
    refine snl h11 ?_
    refine hw_cond _ rfl (fun hc1 => ?_) (fun hc1 => ?_)
    · have hr1 := hc1; (try simp only [hcs, Int.reduceToNat] at hc1)
      refine hw_region ?_
      refine stm rfl rfl rfl ?_
      refine st0 (hop_fa fd_75_3 rfl) rfl rfl ?_
      refine st1 (HOp.val (v' := strV (e.getD i default).name) (hol_load ty_9 rfl (nb rfl) (nb rfl) (fun h => (by rfl))) (rfl)) rfl rfl rfl ?_
      refine hf_callVR 20 (xs := [_]) (cs := [_]) (pre := [(8002, _), (8001, _)]) (add_h _ 0 g (namesV (e.take i)) (e.getD i default).name (by omega)) rfl rfl (fun i hi => by first | rfl | (cases i <;> first | rfl | (simp at hi))) ⟨rfl, trivial⟩ (preC rfl (preC rfl pre0)) rfl rfl (fun g3 c1 hx1 => ?_)
      (try dsimp only)
      refine hseq_nil ?_
      refine hq_block ?_
      refine h9 _ ?_
      refine hw_region ?_
      refine st0 (hop_addi rfl rfl rfl (by omega) (by omega)) rfl rfl ?_
      refine stm rfl rfl rfl ?_
      refine hseq_nil ?_
      exact hL6 ((i + 1, g3)) _ _ (by (try dsimp only); omega) (by (try dsimp only); omega) (hsub_of rfl (Nat.le_refl _) (TmSub.cons rfl (Sb.refl _) (TmSub.cons rfl (Sb.refl _) (TmSub.cons rfl (Sb.refl _) (TmSub.cons rfl (Sb.refl _) (TmSub.cons rfl (Sb.refl _) TmSub.nil))))) (HpSub.cons rfl (by dsimp only; rw [names_take_add hil hc1]; exact .refl _) (HpSub.cons rfl (by dsimp only; rw [names_take_add hil hc1]; exact .refl _) HpSub.nil)))
    have hr1 := hc1; (try simp only [hcs, Int.reduceToNat] at hc1)
    refine hw_skip ?_
    refine hq_block ?_
    refine h9 _ ?_
    refine hw_region ?_
    refine st0 (hop_addi rfl rfl rfl (by omega) (by omega)) rfl rfl ?_
    refine stm rfl rfl rfl ?_
    refine hseq_nil ?_
    exact hL6 ((i + 1, g)) _ _ (by (try dsimp only); omega) (by (try dsimp only); omega) (hsub_of rfl (Nat.le_refl _) (TmSub.cons rfl (Sb.refl _) (TmSub.cons rfl (Sb.refl _) (TmSub.cons rfl (Sb.refl _) (TmSub.cons rfl (Sb.refl _) (TmSub.cons rfl (Sb.refl _) TmSub.nil))))) (HpSub.cons rfl (by dsimp only; rw [names_take_not hil hc1]; exact .refl _) (HpSub.cons rfl (by dsimp only; rw [names_take_not hil hc1]; exact .refl _) HpSub.nil)))
  have hr0 := hc0; (try simp only [hcs, Int.reduceToNat] at hc0)
  refine hw_exit ?_
  refine hq_then_exit ?_
  refine hq_then_exit ?_
  refine hq_block_here ?_
  refine h4 _ ?_
  refine hw_seq (fun Nh12 h12 => ?_)
  obtain rfl : i = e.length := (by omega)
  refine hw_region ?_
  refine st1 (hol_load ty_33 rfl (nb rfl) (nb rfl) (fun h => (by rfl))) rfl rfl rfl ?_
  refine sta rfl rfl rfl ?_
  refine snl h12 ?_
  refine hw_ret ?_
  refine hq_ret1 rfl (rval_tmp rfl) [(8001, _)] rfl (preC rfl pre0) ?_
  rw [List.take_length]; exact fz_row (l := namesV e) (enc := fun x _ => strV x) (d := []) (List.mem_cons_self ..) rfl rfl (Nat.le_refl _) (fun i j _ _ => .imm _)
end Go.Proofs.YtmcchhmgchgaaaaDoor

namespace Go.Proofs.YtmcchhmgchgaaaaDoor
set_option linter.unusedSimpArgs false
set_option linter.unusedVariables false
set_option maxRecDepth 100000
set_option maxHeartbeats 1000000
open Go.RowKit

@[reducible] def SigC (e : List Pt) (b : Nat) (t : T) : Prop := ∀ bin, HPure Tryd.prog 47 [ptsV e, intV ((b + t.size - 1 : Nat) : Int), boolV bin] (sgsV (wrapS bin t.sig))
theorem sigL_le (k : Int) (ts : List T) (i : Nat) (h : i < ts.length) : (ts.getD i default).sig.length ≤ (T.sigL k true ts).length := by
  have := kid_next_len (k := k) h
  have h2 := (wrap_len (inB k (ts.getD i default).kind) (ts.getD i default).sig).2
  omega
theorem sizeL_ge' : ∀ ts : List T, ts.length ≤ T.sizeL ts
  | [] => Nat.zero_le _
  | t :: ts => by have := sizeL_ge' ts; have := t.size_pos; simp only [List.length_cons, T.sizeL]; omega
theorem kids_few {t : T} : t.kidsT.length ≤ t.size := by
  cases t with
  | name s => exact Nat.zero_le _
  | times lo hi t => simp [T.kidsT, T.size]
  | many k ts => have := sizeL_ge' ts; simp only [T.kidsT, T.size]; omega
mutual
theorem sigs_tree (e : List Pt) (he : e.length ≤ 100000) : ∀ (t : T) (b : Nat), t.ok = true → t.sig.length ≤ 100000 → AtP e b (T.flat b t) → SigC e b t
  | .name s, b, hok, hl, hat => sigs_doc e he b (.name s) hok hat (Nat.zero_le _) hl (fun i hi => absurd hi (Nat.not_lt_zero _))
  | .times lo hi t, b, hok, hl, hat => by
    have hok' : t.ok = true := by simp only [T.ok, Bool.and_eq_true] at hok; exact hok.2
    have hl' : t.sig.length ≤ 100000 := by
      have h2 := (wrap_len (inB 4 t.kind) t.sig).2
      simp only [T.sig, List.length_append] at hl; omega
    refine sigs_doc e he b (.times lo hi t) hok hat (by simp [T.kidsT]) hl (fun i hi bin => ?_)
    obtain rfl : i = 0 := by simpa [T.kidsT] using hi
    have := sigs_tree e he t b hok' hl' (by simp only [T.flat] at hat; exact atP_left hat) bin
    simpa [T.kidsT, T.sizeL] using this
  | .many k ts, b, hok, hl, hat => by
    have hok' : T.okL ts = true := by simp only [T.ok, Bool.and_eq_true] at hok; exact hok.2
    have hkl : (T.many k ts).kidsT.length ≤ 100000 := by
      have := kids_few (t := .many k ts); have := (at_top hat).2; omega
    exact sigs_doc e he b (.many k ts) hok hat hkl hl (fun i hi bin => sigs_treeL e he ts hok' (fun j hj => Nat.le_trans (sigL_le k ts j hj) hl) i hi _ (kids_at' hat hi) bin)
theorem sigs_treeL (e : List Pt) (he : e.length ≤ 100000) : ∀ ts : List T, T.okL ts = true → (∀ j, j < ts.length → (ts.getD j default).sig.length ≤ 100000) → ∀ i, i < ts.length → ∀ b, AtP e b (T.flat b (ts.getD i default)) → SigC e b (ts.getD i default)
  | [], _, _, i, hi => absurd hi (Nat.not_lt_zero _)
  | t :: ts, hok, hl, i, hi => fun b hat => by
    simp only [T.okL, Bool.and_eq_true] at hok
    cases i with
    | zero => exact sigs_tree e he t b hok.1 (hl 0 (by simp)) hat
    | succ i => exact sigs_treeL e he ts hok.2 (fun j hj => by have := hl (j + 1) (by simpa using hj); simpa using this) i (by simpa using hi) b (by simpa using hat)
end
theorem refShow6_h (t : T) (h : t.ok = true) (hs : t.size ≤ 250) : HPure Tryd.prog 25 [ptsV (T.flat 0 t)] (strV (showL t.sig)) := by
  have hfl := T.flat_len 0 t
  have hsl := sig_len t h
  have hps := t.size_pos
  have hat : AtP (T.flat 0 t) 0 (T.flat 0 t) := ⟨[], [], by simp, rfl⟩
  refine hpure_of Tryd.func25 rfl (by kernel_rfl) _ _ _ rfl 9 rfl rfl (fun w F => ?_)
  refine srg fun N h1 => ?_
  refine sta rfl rfl rfl ?_
  refine snl h1 ?_
  refine srg fun N h2 => ?_
  refine stm rfl rfl rfl ?_
  refine stm rfl rfl rfl ?_
  refine st0 (hop_len_sl (T := 41) rfl (elOf_spec el_41).1 rfl) rfl rfl ?_
  refine st0 (HOp.val (v' := intV ((0 + t.size - 1 : Nat) : Int)) (hop_subi rfl rfl rfl (by omega) (by omega)) (congrArg intV (show ((T.flat 0 t).length : Int) - 1 = ((0 + t.size - 1 : Nat) : Int) by omega))) rfl rfl ?_
  refine st0 (hop_call0 (xs := [_, _, _]) (sigs_tree (T.flat 0 t) (by omega) t 0 h (by omega) hat false) ⟨rfl, ⟨rfl, ⟨rfl, trivial⟩⟩⟩ ⟨(Fz.eq rfl), ⟨(Fz.eq rfl), ⟨(Fz.eq rfl), trivial⟩⟩⟩) rfl rfl ?_
  refine st0 (hop_call0 (xs := [_]) (refShowSg_h t.sig (by omega) (fun x hx => (sig_W t h x hx).ok)) ⟨rfl, trivial⟩ ⟨(Fz.eq rfl), trivial⟩) rfl rfl ?_
  refine sta rfl rfl rfl ?_
  refine snl h2 ?_
  refine hw_ret ?_
  refine hq_ret1 rfl (rval_tmp rfl) [] rfl pre0 ?_
  exact Frz.fz
theorem showNot_h (e : List Pt) (he : PtB e) (h : e = [] ∨ rightV e = false) : HPure Tryd.prog 28 [ptsV e] (strV []) := by
  have hR := right_h e he
  refine hpure_of Tryd.func28 rfl (by kernel_rfl) _ _ _ rfl 25 rfl rfl (fun w F => ?_)
  refine srg fun N h1 => ?_
  refine sta rfl rfl rfl ?_
  refine snl h1 ?_
  refine hw_seq (fun Nh2 h2 => ?_)
  refine srg fun N h3 => ?_
  refine stm rfl rfl rfl ?_
  refine st0 (hop_len_sl (T := 49) rfl (elOf_spec el_49).1 rfl) rfl rfl ?_
  refine st0 (hop_eql rfl rfl) rfl rfl ?_
  refine stm rfl rfl rfl ?_
  refine stg 7 (fun hb => hop_move rfl) rfl rfl rfl rfl rfl ?_
  refine stg 7 (fun hb => hop_call0 (xs := [_]) (hR) ⟨rfl, trivial⟩ ⟨(Fz.eq rfl), trivial⟩) rfl rfl rfl rfl rfl ?_
  refine stg 7 (fun hb => hop_not rfl) rfl rfl rfl rfl rfl ?_
  refine hq_p 11 (hstep_or _ _ rfl rfl rfl) rfl rfl rfl ?_
  refine hseq_nilU (by rfl) (by simp only [dropUn, slots]; exact rfl) ?_
  refine h3 _ ?_
  refine hw_cond _ rfl (fun hc0 => ?_) (fun hc0 => ?_)
  · have hr0 := hc0; (try simp only [hcs, Int.reduceToNat] at hc0)
    refine srg fun N h4 => ?_
    refine sta rfl rfl rfl ?_
    refine snl h4 ?_
    refine hw_ret ?_
    refine hq_then_ret ?_
    refine hq_ret1 rfl (rval_tmp rfl) [] rfl pre0 ?_
    exact .imm _
  have hr0 := hc0; (try simp only [hcs, Int.reduceToNat] at hc0)
  exfalso; have h1 := hr0; simp at h1; rcases h with h2 | h2; exact h1.1 h2; rw [h2] at h1; exact absurd h1.2 (by simp)
/-- Names that were met. -/
theorem met_yes {l : List (List UInt8)} {x : Pt} {met : Bool} (hm : met = (decide (x.kind ≠ 1) || decide (x.name ∈ l))) : met = false → addN l x = l ++ [x.name] := fun h => by
  rw [hm] at h
  simp only [Bool.or_eq_false_iff, decide_eq_false_iff_not, ne_eq, Decidable.not_not] at h
  unfold addN; rw [if_pos h]
theorem met_no {l : List (List UInt8)} {x : Pt} {met : Bool} (hm : met = (decide (x.kind ≠ 1) || decide (x.name ∈ l))) : met = true → addN l x = l := fun h => by
  rw [hm] at h
  simp only [Bool.or_eq_true, decide_eq_true_eq, ne_eq] at h
  unfold addN; rw [if_neg (fun h2 => by rcases h with h | h; exact h h2.1; exact h2.2 h)]
theorem sb_bool' {a b : Bool} (h : a = b) : Sb (boolV a) (boolV b) := by subst h; exact .refl _
theorem sb_nmsn {l o' : List (List UInt8)} {x : List UInt8} {g n ty : Nat} {f : Nat → Nat → HV} (ho : l ++ [x] = o') (hn : n = l.length := by rfl) (h0 : f 0 0 = strV x := by rfl) : OSub ⟨g, n + 1, 1, ty, 0, cat n (nmsF l) f⟩ ⟨g, o'.length, 1, ty, 0, nmsF o'⟩ := by
  subst hn; subst ho
  refine ⟨rfl, by simp, rfl, rfl, Nat.le_refl _, fun i j hi hj => ?_, fun h => absurd h (Nat.not_lt_zero _)⟩
  show Sb (cat l.length (nmsF l) f i j) (strV ((l ++ [x]).getD i []))
  by_cases h' : i < l.length
  · rw [cat_lt h', getD_app h']; exact .refl _
  · have hi' : i = l.length := by simp only at hi; omega
    subst hi'
    obtain rfl : j = 0 := by simp only at hj; omega
    rw [cat_ge (Nat.le_refl _), Nat.sub_self, getD_snoc, h0]; exact .refl _
theorem mem_take_succ {l : List (List UInt8)} {k : Nat} {s : List UInt8} (h : k < l.length) : decide (s ∈ l.take (k + 1)) = (decide (s ∈ l.take k) || decide (l.getD k [] = s)) := by
  have : l.take (k + 1) = l.take k ++ [l.getD k []] := by
    rw [List.take_add_one, List.getD_eq_getElem?_getD, List.getElem?_eq_getElem h]; rfl
  rw [this, Bool.eq_iff_iff, decide_eq_true_eq, Bool.or_eq_true, decide_eq_true_eq, decide_eq_true_eq, List.mem_append, List.mem_singleton]
  exact or_congr Iff.rfl eq_comm
theorem exprRight_h (e o : List Pt) : HPure Tryd.prog 6 [ptsV e, ptsV o] (boolV true) := by
  have hnl := fun i => names_len (e := e) i
  refine hpure_of Tryd.func6 rfl (by kernel_rfl) _ _ _ rfl 110 rfl rfl (fun w F => ?_)
  refine srg fun N h1 => ?_
  refine sta rfl rfl rfl ?_
  refine snl h1 ?_
  refine hw_seq (fun Nh2 h2 => ?_)
  refine srg fun N h3 => ?_
  refine stm rfl rfl rfl ?_
  refine st0 (hop_call0 (xs := [_]) (few_h e) ⟨rfl, trivial⟩ ⟨(Fz.eq rfl), trivial⟩) rfl rfl ?_
  refine st0 (hop_not rfl) rfl rfl ?_
  refine stm rfl rfl rfl ?_
  refine stg 14 (fun hb => hop_move rfl) rfl rfl rfl rfl rfl ?_
  refine stg 14 (fun hb => hop_call0 (xs := [_]) (few_h o) ⟨rfl, trivial⟩ ⟨(Fz.eq rfl), trivial⟩) rfl rfl rfl rfl rfl ?_
  refine stg 14 (fun hb => hop_not rfl) rfl rfl rfl rfl rfl ?_
  refine hq_p 18 (hstep_or _ _ rfl rfl rfl) rfl rfl rfl ?_
  refine hseq_nilU (by rfl) (by simp only [dropUn, slots]; exact rfl) ?_
  refine h3 _ ?_
  refine hw_cond _ rfl (fun hc0 => ?_) (fun hc0 => ?_)
  · have hr0 := hc0; (try simp only [hcs, Int.reduceToNat] at hc0)
    refine srg fun N h4 => ?_
    refine st0 (hop_call0 (xs := []) (live6_h) trivial trivial) rfl rfl ?_
    refine sta rfl rfl rfl ?_
    refine snl h4 ?_
    refine hw_ret ?_
    refine hq_then_ret ?_
    refine hq_ret1 rfl (rval_tmp rfl) [] rfl pre0 ?_
    exact .imm _
  have hr0 := hc0; (try simp only [hcs, Int.reduceToNat] at hc0)
  have hf : fewV e = true ∧ fewV o = true := (by have h := hr0; simp at h; exact h); have hBe := few_B hf.1; have hBo := few_B hf.2; have hfe := few_at hf.1
  refine hw_skip ?_
  refine h2 _ ?_
  refine srg fun N h5 => ?_
  refine stm rfl rfl rfl ?_
  refine st0 (hop_call0 (xs := [_]) (refRight_h e hBe) ⟨rfl, trivial⟩ ⟨(Fz.eq rfl), trivial⟩) rfl rfl ?_
  refine sta rfl rfl rfl ?_
  refine snl h5 ?_
  refine srg fun N h6 => ?_
  refine sta rfl rfl rfl ?_
  refine snl h6 ?_
  refine hw_joinc (α := List UInt8) (fun x c => ⟨110, [(0, .v (ptsV e)), (1, .v (ptsV o)), (5, .v (boolV (refRightV e))), (6, .v (strV x))], [], c⟩) (fun x => HPure Tryd.prog 28 [ptsV e] (strV x)) (fun NhJ7 hJ7 => ?_) (fun tx c hx => ?_)
  · skip
    refine srg fun N h8 => ?_
    refine stm rfl rfl rfl ?_
    refine stm rfl rfl rfl ?_
    refine stg 23 (fun hb => hop_move rfl) rfl rfl rfl rfl rfl ?_
    refine stg 23 (fun hb => hop_len_sl (T := 41) rfl (elOf_spec el_41).1 rfl) rfl rfl rfl rfl rfl ?_
    refine stg 23 (fun hb => hop_gtr rfl rfl) rfl rfl rfl rfl rfl ?_
    refine hq_p 27 (hstep_and _ _ rfl rfl rfl) rfl rfl rfl ?_
    refine hseq_nilU (by rfl) (by simp only [dropUn, slots]; exact rfl) ?_
    refine h8 _ ?_
    refine hw_cond _ rfl (fun hc1 => ?_) (fun hc1 => ?_)
    · have hr1 := hc1; (try simp only [hcs, Int.reduceToNat] at hc1)
      have hre : refRightV e = true ∧ 0 < e.length := (by have h := hr1; simp at h; exact h); obtain ⟨t, hok, het⟩ : ∃ t : T, t.ok = true ∧ e = T.flat 0 t := (by rcases right_tree hre.1 with h | h; (subst h; exact absurd hre.2 (Nat.lt_irrefl _)); exact h); have htl := T.flat_len 0 t; rw [← het] at htl
      refine hw_region ?_
      refine stm rfl rfl rfl ?_
      refine st0 (hop_call0 (xs := [_]) ((show HPure Tryd.prog 25 [ptsV e] (strV (showL t.sig)) by rw [het]; exact refShow6_h t hok (by omega))) ⟨rfl, trivial⟩ ⟨(Fz.eq rfl), trivial⟩) rfl rfl ?_
      refine sta rfl rfl rfl ?_
      refine hseq_nil ?_
      exact hJ7 (showL t.sig) _ _ (by (try dsimp only); rw [het]; exact exprShow_h t hok (by omega)) (hsub_of rfl (Nat.le_refl _) (TmSub.cons rfl (Sb.refl _) (TmSub.cons rfl (Sb.refl _) (TmSub.cons rfl (Sb.refl _) (TmSub.cons rfl (Sb.refl _) TmSub.nil)))) HpSub.nil)
    have hr1 := hc1; (try simp only [hcs, Int.reduceToNat] at hc1)
    refine hw_skip ?_
    exact hJ7 ([]) _ _ (by (try dsimp only); exact showNot_h e hBe (by rw [right_same]; have h := hr1; simp at h; by_cases h2 : e = []; exact .inl h2; exact .inr (by cases h3 : refRightV e with | false => rfl | true => exact absurd (h h3) h2))) (hsub_of rfl (Nat.le_refl _) (TmSub.cons rfl (Sb.refl _) (TmSub.cons rfl (Sb.refl _) (TmSub.cons rfl (Sb.refl _) (TmSub.cons rfl (Sb.refl _) TmSub.nil)))) HpSub.nil)
  · skip
    (try dsimp only at hx ⊢)
    have hshow := hx
    refine srg fun N h9 => ?_
    refine sta rfl rfl rfl ?_
    refine snl h9 ?_
    refine hw_seq (fun Nh10 h10 => ?_)
    refine srg fun N h11 => ?_
    refine sta rfl rfl rfl ?_
    refine snl h11 ?_
    refine hw_block ?_
    refine hw_own 7 9003 1 9 ((nmsF [])) rfl (by decide) rfl (c' := c + 1) rfl ?_
    refine hw_loopc (α := Nat × Nat) (fun x c => ⟨110, [(0, .v (ptsV e)), (1, .v (ptsV o)), (5, .v (boolV (refRightV e))), (6, .v (strV tx)), (7, .v (.os 9003 x.2 0 (namesV (e.take x.1)).length)), (8, .v (intV x.1))], [(9003, nmsO x.2 (namesV (e.take x.1)))], c⟩) (fun x => x.1 ≤ e.length) (fun x => e.length - x.1) ((0, c)) (by exact Nat.zero_le _) (hsub_of rfl (Nat.le_refl _) (TmSub.cons rfl (Sb.refl _) (TmSub.cons rfl (Sb.refl _) (TmSub.cons rfl (Sb.refl _) (TmSub.cons rfl (Sb.refl _) (TmSub.cons rfl (Sb.refl _) (TmSub.cons rfl (Sb.refl _) TmSub.nil)))))) (HpSub.cons rfl (OSub.refl _) HpSub.nil)) (fun x c hx NhL12 hL12 => ?_)
    revert hx hL12; obtain ⟨i, g⟩ := x; intro hx hL12; dsimp only at hx hL12 ⊢
    refine hw_seq (fun Nh13 h13 => ?_)
    refine srg fun N h14 => ?_
    refine stm rfl rfl rfl ?_
    refine stm rfl rfl rfl ?_
    refine st0 (hop_len_sl (T := 41) rfl (elOf_spec el_41).1 rfl) rfl rfl ?_
    refine st0 (hop_lss rfl rfl) rfl rfl ?_
    refine snl h14 ?_
    refine hw_cond _ rfl (fun hc2 => ?_) (fun hc2 => ?_)
    · have hr2 := hc2; (try simp only [hcs, Int.reduceToNat] at hc2)
      have hil : i < e.length := (by omega); have hnli := hnl i
      refine hw_skip ?_
      refine h13 _ ?_
      refine hw_seq (fun Nh15 h15 => ?_)
      refine hw_block ?_
      refine srg fun N h16 => ?_
      refine stm rfl rfl rfl ?_
      refine stm rfl rfl rfl ?_
      refine st0 (hop_ia_sl el_41 rfl rfl (by omega) (by omega) (nb rfl)) rfl rfl ?_
      refine st0 (hop_fa_fp fd_46_0 rfl (nb rfl)) rfl rfl ?_
      refine st0 (HOp.val (v' := intV (e.getD i default).kind) (hop_load_fp ty_3 rfl (nb rfl) (fun h => (by rfl))) (rfl)) rfl rfl ?_
      refine st0 (hop_neq rfl rfl) rfl rfl ?_
      refine sta rfl rfl rfl ?_
      refine snl h16 ?_
      refine hw_seq (fun Nh17 h17 => ?_)
      refine srg fun N h18 => ?_
      refine sta rfl rfl rfl ?_
      refine snl h18 ?_
      refine hw_block ?_
      refine hw_loopc (α := Nat) (fun x c => ⟨110, [(0, .v (ptsV e)), (1, .v (ptsV o)), (5, .v (boolV (refRightV e))), (6, .v (strV tx)), (7, .v (.os 9003 g 0 (namesV (e.take i)).length)), (8, .v (intV i)), (9, .v (boolV (decide ((e.getD i default).kind ≠ 1) || decide ((e.getD i default).name ∈ (namesV (e.take i)).take x)))), (10, .v (intV x))], [(9003, nmsO g (namesV (e.take i)))], c⟩) (fun x => x ≤ (namesV (e.take i)).length) (fun x => (namesV (e.take i)).length - x) (0) (by exact Nat.zero_le _) (hsub_of rfl (Nat.le_refl _) (TmSub.cons rfl (Sb.refl _) (TmSub.cons rfl (Sb.refl _) (TmSub.cons rfl (Sb.refl _) (TmSub.cons rfl (Sb.refl _) (TmSub.cons rfl (Sb.refl _) (TmSub.cons rfl (Sb.refl _) (TmSub.cons rfl (by exact sb_bool' (by simp [bne, beq_d])) (TmSub.cons rfl (Sb.refl _) TmSub.nil)))))))) (HpSub.cons rfl (OSub.refl _) HpSub.nil)) (fun k c hx NhL19 hL19 => ?_)
      (try dsimp only at hx hL19 ⊢)
      refine hw_seq (fun Nh20 h20 => ?_)
      refine srg fun N h21 => ?_
      refine stm rfl rfl rfl ?_
      refine stm rfl rfl rfl ?_
      refine st0 (hop_len_os (T := 33) rfl (elOf_spec el_33).1 rfl) rfl rfl ?_
      refine st0 (hop_lss rfl rfl) rfl rfl ?_
      refine snl h21 ?_
      refine hw_cond _ rfl (fun hc3 => ?_) (fun hc3 => ?_)
      · have hr3 := hc3; (try simp only [hcs, Int.reduceToNat] at hc3)
        refine hw_skip ?_
        refine h20 _ ?_
        refine hw_seq (fun Nh22 h22 => ?_)
        refine hw_block ?_
        refine hd_start ?_
        refine hd_q 48 (hop_move rfl) rfl rfl pre0 rfl rfl (k' := 1) rfl ?_
        refine hd_q 49 (hop_move rfl) rfl rfl pre0 rfl rfl (k' := 2) rfl ?_
        refine hd_g 50 1 49 false _ (fun hb => hop_move rfl) rfl rfl rfl rfl pre0 rfl rfl rfl (k' := 3) rfl ?_
        refine hd_g 51 1 49 false _ (fun hb => hop_move rfl) rfl rfl rfl rfl pre0 rfl rfl rfl (k' := 4) rfl ?_
        refine hd_g 52 1 49 false _ (fun hb => hol_ia_os el_33 rfl rfl (by (simp at hb; first | omega | (dsimp only; omega) | (simp <;> omega))) (by (simp at hb; first | omega | (dsimp only; omega) | (simp <;> omega)))) rfl rfl rfl rfl (pre1 rfl) rfl rfl rfl (k' := 5) rfl ?_
        refine hd_g 53 1 49 false _ (fun hb => HOp.val (v' := strV ((namesV (e.take i)).getD k [])) (hol_load ty_9 rfl (by (simp at hb; first | omega | (dsimp only; omega) | (simp <;> omega))) (nb rfl) (fun h => (by rfl))) (by simp only [Nat.zero_add]; rfl)) rfl rfl rfl rfl (pre1 rfl) rfl rfl rfl (k' := 6) rfl ?_
        refine hd_g 54 1 49 false _ (fun hb => hop_move rfl) rfl rfl rfl rfl pre0 rfl rfl rfl (k' := 7) rfl ?_
        refine hd_g 55 1 49 false _ (fun hb => hop_move rfl) rfl rfl rfl rfl pre0 rfl rfl rfl (k' := 8) rfl ?_
        refine hd_g 56 1 49 false _ (fun hb => hop_ia_sl el_41 rfl rfl (by (simp at hb; first | omega | (dsimp only; omega) | (simp <;> omega))) (by (simp at hb; first | omega | (dsimp only; omega) | (simp <;> omega))) (nb rfl)) rfl rfl rfl rfl pre0 rfl rfl rfl (k' := 9) rfl ?_
        refine hd_g 57 1 49 false _ (fun hb => hop_fa_fp fd_46_3 rfl (nb rfl)) rfl rfl rfl rfl pre0 rfl rfl rfl (k' := 10) rfl ?_
        refine hd_g 58 1 49 false _ (fun hb => HOp.val (v' := strV (e.getD i default).name) (hop_load_fp ty_9 rfl (nb rfl) (fun h => (by rfl))) (rfl)) rfl rfl rfl rfl pre0 rfl rfl rfl (k' := 11) rfl ?_
        refine hd_g 59 1 49 false _ (fun hb => hop_seq_l rfl rfl) rfl rfl rfl rfl pre0 rfl rfl rfl (k' := 12) rfl ?_
        refine hd_p 60 (hstep_or _ _ rfl rfl rfl) rfl rfl rfl (k' := 13) rfl ?_
        refine hd_q 9 (hop_assign rfl) rfl rfl pre0 rfl rfl (k' := 14) rfl ?_
        refine hd_nil (by kernel_rfl) (by kernel_rfl) (c' := c + 14) rfl ?_
        refine hq_block ?_
        refine h22 _ ?_
        refine hw_region ?_
        refine stm rfl rfl rfl ?_
        refine st0 (hop_addi rfl rfl rfl (by omega) (by omega)) rfl rfl ?_
        refine sta rfl rfl rfl ?_
        refine hseq_nil ?_
        exact hL19 (k + 1) _ _ (by (try dsimp only); omega) (by (try dsimp only); omega) (hsub_of rfl (Nat.le_refl _) (TmSub.cons rfl (Sb.refl _) (TmSub.cons rfl (Sb.refl _) (TmSub.cons rfl (Sb.refl _) (TmSub.cons rfl (Sb.refl _) (TmSub.cons rfl (Sb.refl _) (TmSub.cons rfl (Sb.refl _) (TmSub.cons rfl (by exact sb_bool' (by rw [mem_take_succ (by omega), Bool.or_assoc])) (TmSub.cons rfl (Sb.refl _) TmSub.nil)))))))) (HpSub.cons rfl (OSub.refl _) HpSub.nil))
      have hr3 := hc3; (try simp only [hcs, Int.reduceToNat] at hc3)
      obtain rfl : k = (namesV (e.take i)).length := (by omega)
      refine hw_exit ?_
      refine hq_then_exit ?_
      refine hq_then_exit ?_
      refine hq_block_here ?_
      refine h17 _ ?_
      refine srg fun N h23 => ?_
      refine stm rfl rfl rfl ?_
      refine st0 (hop_not rfl) rfl rfl ?_
      refine snl h23 ?_
      refine hw_cond _ rfl (fun hc4 => ?_) (fun hc4 => ?_)
      · have hr4 := hc4; (try simp only [hcs, Int.reduceToNat] at hc4)
        have hadd := met_yes (l := namesV (e.take i)) (x := e.getD i default) rfl (by have h := hr4; rw [List.take_length] at h; simpa only [Bool.not_eq_true'] using h)
        refine hw_region ?_
        refine stm rfl rfl rfl ?_
        refine stm rfl rfl rfl ?_
        refine stm rfl rfl rfl ?_
        refine st0 (hop_ia_sl el_41 rfl rfl (by omega) (by omega) (nb rfl)) rfl rfl ?_
        refine st0 (hop_fa_fp fd_46_3 rfl (nb rfl)) rfl rfl ?_
        refine st0 (HOp.val (v' := strV (e.getD i default).name) (hop_load_fp ty_9 rfl (nb rfl) (fun h => (by rfl))) (rfl)) rfl rfl ?_
        refine hm_1 69 (hop_buildSlice (id := 69) (hs := [_]) ei_33 (nb rfl) rfl (nb rfl) ⟨rfl, rfl, rfl, rfl, trivial⟩) rfl rfl pre0 rfl rfl (c' := c + 1) rfl ?_
        refine hm_1 70 (hol_append ei_33 (nb rfl) rfl (by omega) (nb rfl) (srl_os0 rfl (nb rfl)) (by omega) rfl) rfl rfl (preC rfl (pre1 rfl)) rfl rfl (c' := c + 2) rfl ?_
        refine sta rfl rfl rfl ?_
        refine hseq_nil ?_
        refine hq_block ?_
        refine h15 _ ?_
        refine hw_region ?_
        refine stm rfl rfl rfl ?_
        refine st0 (hop_addi rfl rfl rfl (by omega) (by omega)) rfl rfl ?_
        refine sta rfl rfl rfl ?_
        refine hseq_nil ?_
        exact hL12 ((i + 1, c + 1)) _ _ (by (try dsimp only); omega) (by (try dsimp only); omega) (hsub_of rfl (Nat.le_refl _) (TmSub.cons rfl (Sb.refl _) (TmSub.cons rfl (Sb.refl _) (TmSub.cons rfl (Sb.refl _) (TmSub.cons rfl (Sb.refl _) (TmSub.cons rfl (by dsimp only; rw [names_take hil, hadd]; exact sb_os (by simp)) (TmSub.cons rfl (Sb.refl _) TmSub.nil)))))) (HpSub.cons rfl (by dsimp only; rw [names_take hil, hadd]; exact sb_nmsn rfl) HpSub.nil))
      have hr4 := hc4; (try simp only [hcs, Int.reduceToNat] at hc4)
      have hadd := met_no (l := namesV (e.take i)) (x := e.getD i default) rfl (by have h := hr4; rw [List.take_length] at h; simpa only [Bool.not_eq_false'] using h)
      refine hw_skip ?_
      refine hq_block ?_
      refine h15 _ ?_
      refine hw_region ?_
      refine stm rfl rfl rfl ?_
      refine st0 (hop_addi rfl rfl rfl (by omega) (by omega)) rfl rfl ?_
      refine sta rfl rfl rfl ?_
      refine hseq_nil ?_
      exact hL12 ((i + 1, g)) _ _ (by (try dsimp only); omega) (by (try dsimp only); omega) (hsub_of rfl (Nat.le_refl _) (TmSub.cons rfl (Sb.refl _) (TmSub.cons rfl (Sb.refl _) (TmSub.cons rfl (Sb.refl _) (TmSub.cons rfl (Sb.refl _) (TmSub.cons rfl (by dsimp only; rw [names_take hil, hadd]; exact .refl _) (TmSub.cons rfl (Sb.refl _) TmSub.nil)))))) (HpSub.cons rfl (by dsimp only; rw [names_take hil, hadd]; exact .refl _) HpSub.nil))
    have hr2 := hc2; (try simp only [hcs, Int.reduceToNat] at hc2)
    refine hw_exit ?_
    refine hq_then_exit ?_
    refine hq_then_exit ?_
    refine hq_block_here ?_
    refine h10 _ ?_
    refine hw_seq (fun Nh24 h24 => ?_)
    refine hw_seq (fun Nh25 h25 => ?_)
    obtain rfl : i = e.length := (by omega)
    refine hw_region ?_
    refine (hsub_shr 7 [(9003, _)] rfl (preC rfl pre0) rfl ((show Fz _ _ (nmsV (namesV e)) by rw [List.take_length]; exact fz_row (l := namesV e) (enc := fun x _ => strV x) (d := []) (List.mem_cons_self ..) rfl rfl (Nat.le_refl _) (fun i j _ _ => .imm _)))).seq ?_
    refine stm rfl rfl rfl ?_
    refine st0 (hop_call0 (xs := [_]) (theirs_h e hBe.1) ⟨rfl, trivial⟩ ⟨(Fz.eq rfl), trivial⟩) rfl rfl ?_
    refine st0 (hop_call0 (xs := [_]) (right_h e hBe) ⟨rfl, trivial⟩ ⟨(Fz.eq rfl), trivial⟩) rfl rfl ?_
    refine stm rfl rfl rfl ?_
    refine st0 (hop_bne (fun w => by kernel_rfl) rfl rfl) rfl rfl ?_
    refine stm rfl rfl rfl ?_
    refine stg 76 (fun hb => hop_move rfl) rfl rfl rfl rfl rfl ?_
    refine stg 76 (fun hb => hop_call0 (xs := [_]) (theirs_h e hBe.1) ⟨rfl, trivial⟩ ⟨(Fz.eq rfl), trivial⟩) rfl rfl rfl rfl rfl ?_
    refine stg 76 (fun hb => hop_call0 (xs := [_]) (hshow) ⟨rfl, trivial⟩ ⟨(Fz.eq rfl), trivial⟩) rfl rfl rfl rfl rfl ?_
    refine stg 76 (fun hb => hop_move rfl) rfl rfl rfl rfl rfl ?_
    refine stg 76 (fun hb => hop_sne_l rfl rfl) rfl rfl rfl rfl rfl ?_
    refine hq_p 82 (hstep_or _ _ rfl rfl rfl) rfl rfl rfl ?_
    refine stm rfl rfl rfl ?_
    refine stg 83 (fun hb => hop_move rfl) rfl rfl rfl rfl rfl ?_
    refine stg 83 (fun hb => hop_call0 (xs := [_]) (theirs_h e hBe.1) ⟨rfl, trivial⟩ ⟨(Fz.eq rfl), trivial⟩) rfl rfl rfl rfl rfl ?_
    refine stg 83 (fun hb => hop_call0 (xs := [_]) (names_h e hBe.1) ⟨rfl, trivial⟩ ⟨(Fz.eq rfl), trivial⟩) rfl rfl rfl rfl rfl ?_
    refine stg 83 (fun hb => hop_move rfl) rfl rfl rfl rfl rfl ?_
    refine stg 83 (fun hb => hop_call0 (xs := [_, _]) (sameS_h (namesV e) (namesV e) (by have := hnl e.length; rw [List.take_length] at this; omega)) ⟨rfl, ⟨rfl, trivial⟩⟩ ⟨(Fz.eq rfl), ⟨(Fz.eq rfl), trivial⟩⟩) rfl rfl rfl rfl rfl ?_
    refine stg 83 (fun hb => hop_not rfl) rfl rfl rfl rfl rfl ?_
    refine hq_p 90 (hstep_or _ _ rfl rfl rfl) rfl rfl rfl ?_
    refine hseq_nilU (by rfl) (by simp only [dropUn, slots]; exact rfl) ?_
    refine h25 _ ?_
    refine hw_cond _ rfl (fun hc5 => ?_) (fun hc5 => ?_)
    · have hr5 := hc5; (try simp only [hcs, Int.reduceToNat] at hc5)
      exfalso; have h := hr5; rw [right_same] at h; simp at h
    have hr5 := hc5; (try simp only [hcs, Int.reduceToNat] at hc5)
    refine hw_skip ?_
    refine h24 _ ?_
    refine srg fun N h26 => ?_
    refine stm rfl rfl rfl ?_
    refine st0 (hop_call0 (xs := [_]) (theirs_h e hBe.1) ⟨rfl, trivial⟩ ⟨(Fz.eq rfl), trivial⟩) rfl rfl ?_
    refine stm rfl rfl rfl ?_
    refine st0 (hop_call0 (xs := [_]) (theirs_h o hBo.1) ⟨rfl, trivial⟩ ⟨(Fz.eq rfl), trivial⟩) rfl rfl ?_
    refine st0 (hop_call0 (xs := [_, _]) (exprSame_h e o hBe hBo) ⟨rfl, ⟨rfl, trivial⟩⟩ ⟨(Fz.eq rfl), ⟨(Fz.eq rfl), trivial⟩⟩) rfl rfl ?_
    refine stm rfl rfl rfl ?_
    refine stm rfl rfl rfl ?_
    refine st0 (hop_call0 (xs := [_, _]) (samePts_h e o hBe hBo) ⟨rfl, ⟨rfl, trivial⟩⟩ ⟨(Fz.eq rfl), ⟨(Fz.eq rfl), trivial⟩⟩) rfl rfl ?_
    refine st0 (hop_beq (fun w => by kernel_rfl) rfl rfl) rfl rfl ?_
    refine stm rfl rfl rfl ?_
    refine stg 100 (fun hb => hop_move rfl) rfl rfl rfl rfl rfl ?_
    refine stg 100 (fun hb => hop_call0 (xs := [_]) (theirs_h e hBe.1) ⟨rfl, trivial⟩ ⟨(Fz.eq rfl), trivial⟩) rfl rfl rfl rfl rfl ?_
    refine stg 100 (fun hb => hop_move rfl) rfl rfl rfl rfl rfl ?_
    refine stg 100 (fun hb => hop_call0 (xs := [_]) (theirs_h e hBe.1) ⟨rfl, trivial⟩ ⟨(Fz.eq rfl), trivial⟩) rfl rfl rfl rfl rfl ?_
    refine stg 100 (fun hb => hop_call0 (xs := [_, _]) (exprSame_h e e hBe hBe) ⟨rfl, ⟨rfl, trivial⟩⟩ ⟨(Fz.eq rfl), ⟨(Fz.eq rfl), trivial⟩⟩) rfl rfl rfl rfl rfl ?_
    refine hq_p 106 (hstep_and _ _ rfl rfl rfl) rfl rfl rfl ?_
    refine stm rfl rfl rfl ?_
    refine stg 107 (fun hb => hop_call0 (xs := []) (live6_h) trivial trivial) rfl rfl rfl rfl rfl ?_
    refine hq_p 109 (hstep_and _ _ rfl rfl rfl) rfl rfl rfl ?_
    refine sta rfl rfl rfl ?_
    refine hseq_nilU (by rfl) (by simp only [dropUn, slots]; exact rfl) ?_
    refine h26 _ ?_
    refine hw_ret ?_
    refine hq_ret1 rfl (rval_tmp rfl) [] rfl pre0 ?_
    exact fz_bool (by simp)
end Go.Proofs.YtmcchhmgchgaaaaDoor

namespace Go.Proofs.YtmcchhmgchgaaaaDoor
set_option linter.unusedSimpArgs false
set_option linter.unusedVariables false
open Go.ChangeShapes Go.WideShapes Go.ChangeAt Go.RowKit Go.Deep

section
variable {H : Type} {encH : TypeId × Value → H} {P : Program} {w : World} {base : Nat} {spare : Nat → Bool} {held : Bool}

/-- A slice that came in, element by element. -/
theorem open_sl {α : Type} {t e : TypeId} {fuel : Nat} {A : Option Addr} {n c : Nat} {x : DataW H × List MemPlace} (ht : P.underlying t = some (.slice e)) (size : Nat) (hC : P.cellsOf e = size) (hpos : 0 < size)
    (enc : α → List Value) (henc : ∀ a, (enc a).length = size) (ok : α → Prop)
    (hel : ∀ (m : Nat) (cs : List Value) (y : DataW H × List MemPlace), DataW.trod encH P w base spare held m e cs = some y → ∃ a : α, cs = enc a ∧ ok a)
    (hf : DataW.trod encH P w base spare held fuel t [.slice A n c] = some x) :
    ∃ l : List α, l.length = n ∧ Sl w w.heap.size size enc A l ∧ n ≤ c ∧ c ≤ 9223372036854775807 ∧ ∀ a ∈ l, ok a := by
  rcases open_slice ht hf with ⟨h0, _⟩ | ⟨a, len, cap, m, k, D, Pl, hcs, hb, hl, hm, hmm, hx, hi⟩
  · injection h0 with h0 _
    injection h0 with h1 h2 h3
    subst h1; subst h2; subst h3
    exact ⟨[], rfl, ⟨henc, Reads.none_⟩, by omega, by omega, by simp⟩
  · injection hcs with h0 _
    injection h0 with h1 h2 h3
    subst h1; subst h2; subst h3
    have hnm : n ≤ m := by rw [hmm]; split <;> omega
    have each : ∀ k, k ≤ n → ∃ l : List α, l.length = k ∧ (∀ i (hi : i < l.length), w.cells? base (a.add (i * size)) size = some (enc l[i])) ∧ ∀ y ∈ l, ok y := by
      intro k
      induction k with
      | zero => intro _; exact ⟨[], rfl, fun i hi => by simp at hi, by simp⟩
      | succ k ih =>
        intro hk
        obtain ⟨l, hl1, hl2, hl3⟩ := ih (by omega)
        obtain ⟨cs', h1, h2⟩ := hi k (by omega)
        rw [hC] at h1
        obtain ⟨a', rfl, hok⟩ := hel _ _ _ h2
        refine ⟨l ++ [a'], by simp [hl1], fun i hi => ?_, fun y hy => ?_⟩
        · by_cases hik : i < l.length
          · rw [List.getElem_append_left hik]; exact hl2 i hik
          · have : i = k := by simp at hi; omega
            subst this
            simp [hl1, h1]
        · rcases List.mem_append.1 hy with hy | hy
          · exact hl3 y hy
          · simp at hy; subst hy; exact hok
    obtain ⟨l, hl1, hl2, hl3⟩ := each n (Nat.le_refl _)
    refine ⟨l, hl1, ⟨henc, ?_, fun hn => ?_⟩, hl, by unfold maxLen at hm; omega, hl3⟩
    · have : ∀ m : List α, (m.flatMap enc).length = m.length * size := by
        intro m
        induction m with
        | nil => simp
        | cons x m ih => simp [List.flatMap_cons, ih, henc, Nat.add_mul, Nat.add_comm]
      exact this l
    · refine ⟨a, rfl, ?_, fun j u hu => ?_⟩
      · have h0 := hl2 0 hn
        have := World.cells?_block h0 hpos
        rwa [block_of_add] at this
      · have hfl : (l.flatMap enc).length = l.length * size := by
          have : ∀ m : List α, (m.flatMap enc).length = m.length * size := by
            intro m
            induction m with
            | nil => simp
            | cons x m ih => simp [List.flatMap_cons, ih, henc, Nat.add_mul, Nat.add_comm]
          exact this l
        have hj : j < l.length * size := by
          rcases Nat.lt_or_ge j (l.flatMap enc).length with hlt | hge
          · rw [hfl] at hlt; exact hlt
          · rw [List.getElem?_eq_none hge] at hu; cases hu
        have hjd : j / size < l.length := (Nat.div_lt_iff_lt_mul hpos).2 hj
        have hjm : j % size < size := Nat.mod_lt _ hpos
        have e1 : j = j / size * size + j % size := by rw [Nat.mul_comm]; exact (Nat.div_add_mod j size).symm
        rw [e1] at hu ⊢
        rw [flatMap_at henc _ _ _ hjd hjm] at hu
        have := (World.cells?_some (hl2 _ hjd)).2.2 (j % size) hjm
        rw [add_of_add] at this
        rw [this, hu]

def okInt (x : Int) : Prop := (Lit.int .i64 x).wf = true
theorem el_int {e : TypeId} (he : P.underlying e = some (.int .i64)) (m : Nat) (cs : List Value) (y : DataW H × List MemPlace) (h : DataW.trod encH P w base spare held m e cs = some y) : ∃ a : Int, cs = intC a ∧ okInt a := by
  obtain ⟨b, rfl, _, hw⟩ := DataW.trod_int he h
  exact ⟨b, rfl, hw⟩
end
end Go.Proofs.YtmcchhmgchgaaaaDoor

namespace Go.Proofs.YtmcchhmgchgaaaaDoor
set_option linter.unusedSimpArgs false
set_option linter.unusedVariables false
open Go.ChangeShapes Go.WideShapes Go.ChangeAt Go.RowKit Go.Deep
/-- A part, as it comes in: what it says, and where its kids lie. -/
structure PtI where
  v : Pt
  A : Option Addr
  n : Nat
  c : Nat
def PtI.cells (x : PtI) : List Value := [.int .i64 x.v.kind, .int .i64 x.v.low, .int .i64 x.v.high, .string ⟨x.v.name.toArray⟩, .slice x.A x.n x.c]
def PtI.none : PtI := ⟨default, .none, 0, 0⟩
theorem PtI.cells_length (x : PtI) : x.cells.length = 5 := by simp [PtI.cells]
def PtI.inOk (w : World) (x : PtI) : Prop := x.v.kids.length = x.n ∧ Sl w w.heap.size 1 intC x.A x.v.kids ∧ x.n ≤ x.c ∧ x.c ≤ 9223372036854775807
theorem pti_one (x : PtI) : ∀ u ∈ x.cells, u.oneCell' = true := by
  intro u hu
  simp only [PtI.cells, List.mem_cons, List.not_mem_nil, or_false] at hu
  rcases hu with rfl | rfl | rfl | rfl | rfl <;> rfl
section
variable {H : Type} {encH : TypeId × Value → H} {w : World} {base : Nat} {spare : Nat → Bool} {held : Bool}
theorem slice_form {P : Program} {t e : TypeId} (ht : P.underlying t = some (.slice e)) {fuel : Nat} {v : Value} {x : DataW H × List MemPlace} (hf : DataW.trod encH P w base spare held fuel t [v] = some x) : ∃ A n c, v = .slice A n c := by
  rcases open_slice ht hf with ⟨h0, _⟩ | ⟨a, len, cap, m, k, D, Pl, hcs, _⟩
  · injection h0 with h0 _; exact ⟨_, _, _, h0⟩
  · injection hcs with h0 _; exact ⟨_, _, _, h0⟩
set_option maxRecDepth 100000 in
theorem el_pt (m : Nat) (cs : List Value) (y : DataW H × List MemPlace) (h : DataW.trod encH Tryd.prog w base spare held m 46 cs = some y) : ∃ t : PtI, cs = t.cells ∧ t.inOk w := by
  obtain ⟨xs, k, _, _, hlen, hxl, hx⟩ := DataW.trod_struct Tryd.underlying46 h
  have hC : Tryd.prog.cellsOf 46 = 5 := by kernel_rfl
  have hI : Tryd.prog.cellsOf 3 = 1 := by kernel_rfl
  have hS : Tryd.prog.cellsOf 9 = 1 := by kernel_rfl
  have hK : Tryd.prog.cellsOf 44 = 1 := by kernel_rfl
  rw [hC] at hlen
  match cs, hlen, xs, hxl with
  | [c0, c1, c2, c3, c4], _, [x0, x1, x2, x3, x4], _ =>
    have f0 : DataW.trod encH Tryd.prog w base spare held k 3 (([c0, c1, c2, c3, c4].drop 0).take (Tryd.prog.cellsOf 3)) = [x0, x1, x2, x3, x4][0]? := hx 0 _ rfl
    have f1 : DataW.trod encH Tryd.prog w base spare held k 3 (([c0, c1, c2, c3, c4].drop 1).take (Tryd.prog.cellsOf 3)) = [x0, x1, x2, x3, x4][1]? := hx 1 _ rfl
    have f2 : DataW.trod encH Tryd.prog w base spare held k 3 (([c0, c1, c2, c3, c4].drop 2).take (Tryd.prog.cellsOf 3)) = [x0, x1, x2, x3, x4][2]? := hx 2 _ rfl
    have f3 : DataW.trod encH Tryd.prog w base spare held k 9 (([c0, c1, c2, c3, c4].drop 3).take (Tryd.prog.cellsOf 9)) = [x0, x1, x2, x3, x4][3]? := hx 3 _ rfl
    have f4 : DataW.trod encH Tryd.prog w base spare held k 44 (([c0, c1, c2, c3, c4].drop 4).take (Tryd.prog.cellsOf 44)) = [x0, x1, x2, x3, x4][4]? := hx 4 _ rfl
    rw [hI] at f0 f1 f2
    rw [hS] at f3
    rw [hK] at f4
    obtain ⟨a0, h0, _, _⟩ := DataW.trod_int Tryd.underlying3 f0
    obtain ⟨a1, h1, _, _⟩ := DataW.trod_int Tryd.underlying3 f1
    obtain ⟨a2, h2, _, _⟩ := DataW.trod_int Tryd.underlying3 f2
    obtain ⟨b3, h3, _, _⟩ := DataW.trod_string Tryd.underlying9 f3
    simp at h0 h1 h2 h3
    subst h0; subst h1; subst h2; subst h3
    simp only [List.drop_succ_cons, List.drop_zero, List.take_succ_cons, List.take_zero] at f4
    obtain ⟨A, n, c, rfl⟩ := slice_form Tryd.underlying44 f4
    obtain ⟨l, e, s, o, m', _⟩ := open_sl Tryd.underlying44 1 (by kernel_rfl) (by omega) intC (fun a => by simp [intC]) okInt (el_int Tryd.underlying3) f4
    exact ⟨⟨⟨a0, a1, a2, b3.data.toList, l⟩, A, n, c⟩, rfl, e, s, o, m'⟩
end
theorem intC_one (x : Int) : ∀ u ∈ intC x, u.oneCell' = true := by
  intro u hu
  simp only [intC, List.mem_cons, List.not_mem_nil, or_false] at hu
  subst hu; rfl
theorem rep_kids {w : World} {B : Nat} {A : Option Addr} {c : Nat} {l : List Int} (h : Sl w B 1 intC A l) (hc : l.length ≤ c) (hm : c ≤ maxLen) : Rep w (Env.just (allF w)) (.slice A l.length c) (kidsV l) :=
  rep_sl 1 (by omega) intC intC_one (fun x _ => intV x) 0 l hc hm h (fun i j _ hj => by
    match j, hj with
    | 0, _ => exact .imm _)
theorem rep_pts {w : World} {B : Nat} {A : Option Addr} {c : Nat} {l : List PtI} (h : Sl w B 5 PtI.cells A l) (hc : l.length ≤ c) (hm : c ≤ maxLen) (hok : ∀ x ∈ l, x.inOk w) : Rep w (Env.just (allF w)) (.slice A l.length c) (ptsV (l.map (·.v))) := by
  have key := rep_sl (w := w) 5 (by omega) PtI.cells pti_one (fun x => ptF x.v) PtI.none l hc hm h (fun i j hi hj => by
    have hg : l.getD i PtI.none = l[i] := by rw [List.getD_eq_getElem?_getD, List.getElem?_eq_getElem hi]; rfl
    rw [hg]
    obtain ⟨e, s, o, m⟩ := hok _ (List.getElem_mem hi)
    generalize l[i] = x at e s o m
    obtain ⟨v, A', n', c'⟩ := x
    simp only at e s o m
    subst e
    match j, hj with
    | 0, _ => exact .imm _
    | 1, _ => exact .imm _
    | 2, _ => exact .imm _
    | 3, _ => exact .imm _
    | 4, _ => exact rep_kids s o (by unfold maxLen; omega))
  have e : ptsV (l.map (·.v)) = .sl 5 l.length (fun i => ptF (l.getD i PtI.none).v) := by
    show HV.sl 5 (l.map (·.v)).length (ptsF (l.map (·.v))) = _
    rw [List.length_map]
    congr 1
    funext i
    show ptF ((l.map (·.v)).getD i default) = _
    congr 1
    rw [List.getD_eq_getElem?_getD, List.getD_eq_getElem?_getD, List.getElem?_map]
    cases l[i]? <;> rfl
  rw [e]; exact key
end Go.Proofs.YtmcchhmgchgaaaaDoor

namespace Go.Proofs.YtmcchhmgchgaaaaDoor
set_option linter.unusedSimpArgs false
set_option linter.unusedVariables false
open Go.RowKit
theorem ExprRight_walk (W : World) (hL : LibW W) (a : Option Addr) (n c : Nat) (l : List PtI) (hn : l.length = n) (sl : Sl W W.heap.size 5 PtI.cells a l) (hc : n ≤ c) (hm : c ≤ 9223372036854775807) (hok : ∀ x ∈ l, x.inOk W)
    (a' : Option Addr) (n' c' : Nat) (l' : List PtI) (hn' : l'.length = n') (sl' : Sl W W.heap.size 5 PtI.cells a' l') (hc' : n' ≤ c') (hm' : c' ≤ 9223372036854775807) (hok' : ∀ x ∈ l', x.inOk W) :
    Calls Tryd.prog 6 #[.slice a n c, .slice a' n' c'] W fun e w' => e = .returned (.bool true) ∧ Below W.heap.size W w' := by
  subst hn; subst hn'
  exact law_walk (exprRight_h (l.map (·.v)) (l'.map (·.v))) W [.slice a l.length c, .slice a' l'.length c'] ⟨rep_pts sl hc (by unfold maxLen; omega) hok, rep_pts sl' hc' (by unfold maxLen; omega) hok', trivial⟩ hL
end Go.Proofs.YtmcchhmgchgaaaaDoor

namespace Go.Proofs.YtmcchhmgchgaaaaDoor
set_option linter.unusedSimpArgs false
set_option linter.unusedVariables false
set_option maxRecDepth 100000
open Go.RowKit

theorem laid_one {W : World} {l : List (String × DataW Unit)} (h : laidMetH Tryd.prog l W) (hl : (l.all fun x => x.2.handleName?.isNone) = true) (n : String) (d : DataW Unit) (hf : l.filter (fun x => x.1 == n) = [(n, d)]) : laidMet Tryd.prog [(n, d)] W := by
  rw [MakeChecks.laidMetH_plain _ _ _ hl] at h
  have := laidMet.filter (fun x => x.1 == n) h
  rwa [hf] at this
theorem iface_one {W : World} {n : String} {name : String} {d : DataW Unit} {g : Nat} {t : TypeId} {ms : Array (String × TypeId)} (hg : Tryd.prog.globalNamed n = some g) (hty : (Tryd.prog.globals[g]?).map (·.type) = some t) (ht : Tryd.prog.underlying t = some (.interface ms))
    (h : laidMet Tryd.prog [(n, .iface name d)] W) : ∃ tp p, W.var? Tryd.prog n = some #[.iface tp p] := by
  obtain ⟨ps, ⟨g', t', cs, fuel, p, q, hg', ht', hvar, hd, _, _⟩, _⟩ := h
  obtain rfl := Option.some.inj (hg.symm.trans hg')
  obtain rfl := Option.some.inj (hty.symm.trans ht')
  obtain ⟨f1, u, v, hc, _⟩ := iface_of_trod ht hd
  refine ⟨u, v, ?_⟩
  rw [hvar]
  congr 1
  apply Array.ext'
  exact hc
/-- The wrap of a tied row, with the world's shape and the listed variables. -/
theorem handed_shaped {H : Type} {enc : TypeId × Value → H} {a : Assume} {C : Checked} {os : Os} {f : FuncId} {fn : Func} {s : ChangeSpec} {conds : List PathCond} {apart fresh handsOn again : Bool} {X : World → Array Value → Prop}
    (hX : ∀ (w w' : World) (args : Array Value), w.heap = w'.heap → X w args → X w' args)
    (own : ownKnob C.prog.godebug = none) (started : os.Started) (noInit : C.prog.inits.idxOf? f = none) (hfn : C.prog.funcs[f]? = some fn)
    (wit : ∃ (w : World) (tape : Tape) (i : Input), w.os = os ∧ (w.forCall tape i).Shaped C.prog ∧ i.vars = [] ∧ Input.okWide C.prog (w.forCall tape i) .any w.heap.size f i ∧
      ((s.pre enc C.prog fn conds apart (w.forCall tape i).memory i.args ∧ X (w.forCall tape i).memory i.args) ∧ sizedMet enc C.prog fn (OpenSpec.ofChange s) apart (w.forCall tape i).memory i.args) ∧ a.holds C.prog (lone (Frame.enter C.prog f i.args .normal) [] (w.forCall tape i)))
    (con : ∀ (W : World) (base : Nat) (args : Array Value) (ds gs : List (DataW H)) (before : List MemPlace),
      (∀ (j : Nat) t v, fn.params[j]? = some t → args[j]? = some v → Value.okWide C.prog W .any base t v) →
      DataW.Whole enc C.prog fn.params.toList s.vars apart W args.toList ds gs before →
      conds.all (PathCond.test C.prog ⟨fn.params.toList, ds, s.plain.varTypes C.prog, gs⟩) = true → X W args → W.ShapedOpen C.prog →
      Calls C.prog f args W fun e W' => ∃ v, e = .returned v ∧ s.post enc C.prog fn apart fresh handsOn again W args v W') :
    ReturnsInHanded a C os f .any (fun w args => (s.pre enc C.prog fn conds apart w args ∧ X w args) ∧ sizedMet enc C.prog fn (OpenSpec.ofChange s) apart w args) (s.post enc C.prog fn apart fresh handsOn again) := by
  refine returnsInHanded_of_calls own started noInit wit fun w tape i _ hsh _ hok hpre _ => ?_
  obtain ⟨_, _, _, fn', hfn', _, _, _, _, hval⟩ := hok
  obtain rfl : fn' = fn := Option.some.inj (hfn'.symm.trans hfn)
  obtain ⟨⟨⟨ds, gs, before, hw, hc⟩, hx⟩, _⟩ := hpre
  refine (con (w.forCall tape i) w.heap.size i.args ds gs before hval (DataW.Whole.of_heap (w' := w.forCall tape i) (by rfl) hw) hc (hX _ _ _ (by rfl) hx) hsh).mono fun e W' ⟨v, he, hp⟩ => ?_
  subst he
  exact ChangeSpec.post_blind hp
theorem max_of {W : World} (hs : W.ShapedOpen Tryd.prog) : ∃ m, W.cell? ⟨3, 0, none⟩ = some (.int .i64 m) :=
  cell_of_shapedOpen_int (zero := #[.int .i64 0]) (t := 3) (k := .i64) hs (of_decide_eq_true (by kernel_rfl)) (by kernel_rfl) rfl (by kernel_rfl) (by kernel_rfl) Tryd.underlying3
theorem libW_of {W : World} {l : List (String × DataW Unit)} (hs : W.ShapedOpen Tryd.prog) (h : laidMetH Tryd.prog l W) (hl : (l.all fun x => x.2.handleName?.isNone) = true)
    (h1 : l.filter (fun x => x.1 == "internal/strconv.uint64pow10") = [("internal/strconv.uint64pow10", Rows.laid_internal_strconv_uint64pow10)])
    (h2 : l.filter (fun x => x.1 == "strconv.ErrSyntax") = [("strconv.ErrSyntax", Rows.laid_strconv_ErrSyntax)])
    (h3 : l.filter (fun x => x.1 == "strconv.ErrRange") = [("strconv.ErrRange", Rows.laid_strconv_ErrRange)]) : LibW W := by
  have t := laid_one h hl _ _ h1
  have a := laid_one h hl _ _ h2
  have b := laid_one h hl _ _ h3
  have t' : Lib.TabIs Tryd.prog W "internal/strconv.uint64pow10" .u64 Lib.pow10Tab :=
    Lib.tabIs_of_head (zs := Lib.pow10Tab) (k := .u64) (g := 2) (t := 161) (e := 59) (n := 20) (by kernel_rfl) (by kernel_rfl) Tryd.underlying161 Tryd.underlying59 (by kernel_rfl) (by kernel_rfl) t
  have a' := iface_one (g := 0) (t := 56) (by kernel_rfl) (by kernel_rfl) Tryd.underlying56 a
  have b' := iface_one (g := 1) (t := 56) (by kernel_rfl) (by kernel_rfl) Tryd.underlying56 b
  have lt : ∀ {n : String} {g : Nat} {x : Array Value}, Tryd.prog.globalNamed n = some g → W.var? Tryd.prog n = some x → g < W.heap.size := by
    intro n g x hg hv
    unfold World.var? at hv
    rw [hg] at hv
    simp only [Option.bind_some] at hv
    rcases Nat.lt_or_ge g W.heap.size with h | h
    · exact h
    · rw [Array.getElem?_eq_none h] at hv; cases hv
  have m' := max_of hs
  refine ⟨fun k hk => ?_, fun _ => t', fun _ => a', fun _ => b', fun g hg => by
    obtain rfl := Option.some.inj ((show Tryd.prog.globalNamed "internal/bytealg.MaxLen" = some 3 by kernel_rfl).symm.trans hg)
    exact m'⟩
  obtain ⟨n, hn, hg⟩ := hk
  simp only [libNames, List.mem_cons, List.not_mem_nil, or_false] at hn
  rcases hn with rfl | rfl | rfl | rfl
  · exact lt hg t'
  · obtain ⟨_, _, a'⟩ := a'; exact lt hg a'
  · obtain ⟨_, _, b'⟩ := b'; exact lt hg b'
  · obtain rfl := Option.some.inj ((show Tryd.prog.globalNamed "internal/bytealg.MaxLen" = some 3 by kernel_rfl).symm.trans hg)
    obtain ⟨m, hm⟩ := m'
    exact World.block_lt_of_cell? W _ hm
theorem libW_a {W : World} (hs : W.ShapedOpen Tryd.prog) (h : laidMetH Tryd.prog Rows.wordsNumbersRow.laid W) : LibW W := libW_of hs h (by kernel_rfl) (by kernel_rfl) (by kernel_rfl) (by kernel_rfl)
end Go.Proofs.YtmcchhmgchgaaaaDoor

