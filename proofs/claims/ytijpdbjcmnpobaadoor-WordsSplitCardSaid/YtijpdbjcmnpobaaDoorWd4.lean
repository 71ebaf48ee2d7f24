/-
  A line's words and a text's lines, by the program and by the document.
-/
import Derived.Test.YtijpdbjcmnpobaaDoorWd3
import Derived.Test.YtijpdbjcmnpobaaDoorSplitLaw
import Derived.Test.YtijpdbjcmnpobaaDoorStr3
namespace Go.Proofs.YtijpdbjcmnpobaaDoor
set_option linter.unusedSimpArgs false
set_option linter.unusedVariables false
set_option maxRecDepth 100000
open Go.RowKit

def strC (w : List UInt8) : List Value := [.string ⟨w.toArray⟩]
@[reducible] def strsV (ls : List (List UInt8)) : HV := .sl 1 ls.length (fun i _ => strV (ls.getD i []))
theorem strF_imm (w : List UInt8) (j : Nat) (h : j < 1) : strV w = .imm ((strC w).getD j undef) := by
  match j, h with | 0, _ => rfl
theorem str_one (x : List UInt8) : ∀ u ∈ strC x, u.oneCell' = true := by
  intro u hu
  simp [strC] at hu
  subst hu; rfl
@[reducible] def wordsH (o : Option (List (List UInt8))) : HV := t2 (strsV (o.getD [])) (intV (if o.isSome then 0 else 2))
@[reducible] def linesH (x : List (List UInt8) × Nat × Int) : HV := t3 (strsV x.1) (intV x.2.1) (intV x.2.2)
theorem split_pieces (l : List UInt8) (c : UInt8) : (Lib.splitB ⟨#[c]⟩ 0 (Lib.countB ⟨l.toArray⟩ ⟨#[c]⟩) ⟨l.toArray⟩) = (splitL c l).map (fun w => ⟨w.toArray⟩) := by
  have h1 := Lib.splitB_data ⟨#[c]⟩ 0 (Lib.countB ⟨l.toArray⟩ ⟨#[c]⟩) ⟨l.toArray⟩
  have h2 : Lib.countB ⟨l.toArray⟩ ⟨#[c]⟩ = Lib.count l [c] := rfl
  have h3 : (Lib.splitB ⟨#[c]⟩ 0 (Lib.countB ⟨l.toArray⟩ ⟨#[c]⟩) ⟨l.toArray⟩).map (·.data.toList) = splitL c l := by
    rw [h1, h2]; exact splitK_eq c l
  rw [← h3, List.map_map]
  have : ((fun w : List UInt8 => (⟨w.toArray⟩ : ByteArray)) ∘ fun x : ByteArray => x.data.toList) = id := by
    funext x; cases x; rfl
  rw [this, List.map_id]
theorem split_h (l : List UInt8) (c : UInt8) (hl : l.length ≤ 1000000) : HPure Tryd.prog 62 [strV l, strV [c]] (strsV (splitL c l)) := by
  refine ⟨⟨_, _, Tryd.func62, rfl, by kernel_rfl⟩, fun w F vs hF hr hw => ?_⟩
  obtain ⟨u, v, rfl, hu, hv⟩ := rep2 hr
  rw [hu.imm_inv, hv.imm_inv]
  obtain ⟨m, hm⟩ := hw.max 2 (by kernel_rfl)
  refine (Tryd.strings_Split ⟨l.toArray⟩ ⟨#[c]⟩ m w (by rw [ba_size]; omega) hm (Nat.le_refl 1)).mono ?_
  rintro e w' ⟨rfl, rfl⟩
  have hlen : Lib.countB ⟨l.toArray⟩ ⟨#[c]⟩ + 1 = (splitL c l).length := by
    have := Lib.splitB_all ⟨#[c]⟩ (Nat.le_refl 1) 0 _ ⟨l.toArray⟩ rfl
    rw [split_pieces, List.length_map] at this
    exact this.symm
  rw [hlen, split_pieces]
  refine gives_pure hF (fun w _ => strV w) strF_imm str_one [] (e := 9) (l := splitL c l) ⟨_, _, rfl, ⟨fun _ => rfl, ?_⟩, (Below.refl _ _).alloc (Nat.le_refl _) _⟩
  have hfl : (splitL c l).flatMap strC = ((splitL c l).map (fun w => (⟨w.toArray⟩ : ByteArray))).map Value.string := by
    rw [List.map_map]
    induction splitL c l with
    | nil => rfl
    | cons a t ih => simp [strC, ih]
  refine ⟨by rw [hfl]; simp, .inr ⟨w.heap.size, (splitL c l).length, _, rfl, Nat.le_refl _, Blk.new w _ _, Nat.le_refl _, by have := splitL_len c l; unfold maxLen; omega, by simp, by rw [hfl]; exact List.take_of_length_le (by simp)⟩⟩
theorem getD_mem {ls : List (List UInt8)} {k : Nat} (h : k < ls.length) : ls.getD k [] ∈ ls := by
  rw [List.getD_eq_getElem?_getD, List.getElem?_eq_getElem h]; exact List.getElem_mem h
theorem split_w_h (l : List UInt8) (hl : l.length ≤ 1000000) : HPure Tryd.prog 37 [strV l] (wordsH (wordsV l)) := by
  have hsl := splitL_len 32 l
  refine hpure_of Tryd.func37 rfl (by kernel_rfl) _ _ _ rfl 33 rfl rfl (fun w F => ?_)
  refine hw_seq (fun Nh1 h1 => ?_)
  refine hw_region ?_
  refine hq_ 2 (hop_assign rfl) rfl rfl pre0 rfl rfl ?_
  refine hq_ 3 (hop_assign rfl) rfl rfl pre0 rfl rfl ?_
  refine hseq_nil ?_
  refine h1 _ ?_
  refine hw_seq (fun Nh2 h2 => ?_)
  refine hw_seq (fun Nh3 h3 => ?_)
  refine hw_region ?_
  refine hq_ 8 (hop_move rfl) rfl rfl pre0 rfl rfl ?_
  refine hq_ 9 (hop_seq_l rfl rfl) rfl rfl pre0 rfl rfl ?_
  refine hseq_nil ?_
  refine h3 _ ?_
  refine hw_cond _ rfl (fun hc0 => ?_) (fun hc0 => ?_)
  · have hr0 := hc0; (try simp only [decide_eq_true_eq, decide_eq_false_iff_not, Bool.and_eq_true, Bool.or_eq_true, Bool.not_eq_true', Bool.or_eq_false_iff, beq_iff_eq, bne_iff_ne, ne_eq, beq_eq_false_iff_ne, bne_eq_false_iff_eq, Bool.not_eq_true, Bool.not_eq_false, Bool.not_eq_false', Int.toNat_natCast, Int.reduceToNat] at hc0)
    refine hw_seq (fun Nh4 h4 => ?_)
    refine hw_region ?_
    refine hq_ 2 (hop_assign rfl) rfl rfl pre0 rfl rfl ?_
    refine hq_ 3 (hop_assign rfl) rfl rfl pre0 rfl rfl ?_
    refine hseq_nil ?_
    refine h4 _ ?_
    refine hw_ret ?_
    refine hq_then_ret ?_
    refine hq_ret2 rfl (rval_tmp rfl) (rval_tmp rfl) [] rfl pre0 ?_
    obtain rfl : l = [] := (by simpa using hc0); exact fz_t2 (.nil 0 1 _ (by decide) none) (.imm _)
  · have hr0 := hc0; (try simp only [decide_eq_true_eq, decide_eq_false_iff_not, Bool.and_eq_true, Bool.or_eq_true, Bool.not_eq_true', Bool.or_eq_false_iff, beq_iff_eq, bne_iff_ne, ne_eq, beq_eq_false_iff_ne, bne_eq_false_iff_eq, Bool.not_eq_true, Bool.not_eq_false, Bool.not_eq_false', Int.toNat_natCast, Int.reduceToNat] at hc0)
    refine hw_skip ?_
    refine h2 _ ?_
    refine hw_seq (fun Nh5 h5 => ?_)
    refine hw_region ?_
    refine hq_ 10 (hop_move rfl) rfl rfl pre0 rfl rfl ?_
    refine hq_ 11 (hop_call0 (xs := [_, _]) (split_h l 32 hl) ⟨rfl, ⟨rfl, trivial⟩⟩ ⟨(Fz.eq rfl), ⟨(Fz.eq rfl), trivial⟩⟩) rfl rfl pre0 rfl rfl ?_
    refine hq_ 4 (hop_assign rfl) rfl rfl pre0 rfl rfl ?_
    refine hseq_nil ?_
    refine h5 _ ?_
    refine hw_seq (fun Nh6 h6 => ?_)
    refine hw_seq (fun Nh7 h7 => ?_)
    refine hw_region ?_
    refine hq_ 12 (hop_move rfl) rfl rfl pre0 rfl rfl ?_
    first
    | refine hq_ 13 (hop_len_sl (T := 47) rfl (elOf_spec el_47).1 rfl) rfl rfl pre0 rfl rfl ?_
    | refine hq_ 13 (hop_len_os (T := 47) rfl (elOf_spec el_47).1 rfl) rfl rfl pre0 rfl rfl ?_
    | refine hq_ 13 (hop_len_nil (T := 47) rfl (elOf_spec el_47).1 rfl) rfl rfl pre0 rfl rfl ?_
    refine hq_ 14 (hop_move rfl) rfl rfl pre0 rfl rfl ?_
    refine hseq_nil ?_
    refine h7 _ ?_
    refine hw_block ?_
    refine hw_loopc (α := Nat) (fun x c => ⟨33, [(12, .v (strsV (splitL 32 l))), (13, .v (intV (splitL 32 l).length)), (4, .v (strsV (splitL 32 l))), (14, .v (intV x))], [], c⟩) (fun x => x ≤ (splitL 32 l).length ∧ ∀ i, i < x → wordOk ((splitL 32 l).getD i []) = true) (fun x => (splitL 32 l).length - x) (0) (by exact ⟨Nat.zero_le _, fun i h => absurd h (Nat.not_lt_zero _)⟩) (hsub_of rfl (Nat.le_refl _) (TmSub.cons rfl (Sb.refl _) (TmSub.cons rfl (Sb.refl _) (TmSub.cons rfl (Sb.refl _) (TmSub.cons rfl (Sb.refl _) TmSub.nil)))) HpSub.nil) (fun k c hx NhL8 hL8 => ?_)
    (try dsimp only at hx hL8 ⊢)
    obtain ⟨hk, hok⟩ := hx
    refine hw_seq (fun Nh9 h9 => ?_)
    refine hw_region ?_
    refine hq_ 15 (hop_lss rfl rfl) rfl rfl pre0 rfl rfl ?_
    refine hseq_nil ?_
    refine h9 _ ?_
    refine hw_seq (fun Nh10 h10 => ?_)
    refine hw_cond _ rfl (fun hc1 => ?_) (fun hc1 => ?_)
    · have hr1 := hc1; (try simp only [decide_eq_true_eq, decide_eq_false_iff_not, Bool.and_eq_true, Bool.or_eq_true, Bool.not_eq_true', Bool.or_eq_false_iff, beq_iff_eq, bne_iff_ne, ne_eq, beq_eq_false_iff_ne, bne_eq_false_iff_eq, Bool.not_eq_true, Bool.not_eq_false, Bool.not_eq_false', Int.toNat_natCast, Int.reduceToNat] at hc1)
      refine hw_skip ?_
      refine h10 _ ?_
      refine hw_seq (fun Nh11 h11 => ?_)
      refine hw_block ?_
      refine hw_seq (fun Nh12 h12 => ?_)
      refine hw_region ?_
      first
      | refine hq_ 16 (hop_ia_sl el_47 rfl rfl (by first | exact Nat.le_of_ble_eq_true rfl | omega | (dsimp only; omega) | (simp <;> omega)) (by first | exact Nat.le_of_ble_eq_true rfl | omega | (dsimp only; omega) | (simp <;> omega)) (by first | exact Nat.le_of_ble_eq_true rfl | omega | (dsimp only; omega) | (simp <;> omega))) rfl rfl pre0 rfl rfl ?_
      | refine hq_ 16 (hol_ia_os el_47 rfl rfl (by first | exact Nat.le_of_ble_eq_true rfl | omega | (dsimp only; omega) | (simp <;> omega)) (by first | exact Nat.le_of_ble_eq_true rfl | omega | (dsimp only; omega) | (simp <;> omega))) rfl rfl (pre1 rfl) rfl rfl ?_
      first
      | refine hq_ 17 (hol_load ty_9 rfl (by first | exact Nat.le_of_ble_eq_true rfl | omega | (dsimp only; omega) | (simp <;> omega)) (by first | exact Nat.le_of_ble_eq_true rfl | omega | (dsimp only; omega) | (simp <;> omega)) (fun h => by first | rfl | cases h)) rfl rfl (pre1 rfl) rfl rfl ?_
      | refine hq_ 17 (hop_load_fp ty_9 rfl (by first | exact Nat.le_of_ble_eq_true rfl | omega | (dsimp only; omega) | (simp <;> omega)) (fun h => by first | rfl | cases h)) rfl rfl pre0 rfl rfl ?_
      refine hq_ 6 (hop_assign rfl) rfl rfl pre0 rfl rfl ?_
      refine hseq_nil ?_
      refine h12 _ ?_
      refine hw_seq (fun Nh13 h13 => ?_)
      refine hw_seq (fun Nh14 h14 => ?_)
      refine hw_region ?_
      refine hq_ 18 (hop_move rfl) rfl rfl pre0 rfl rfl ?_
      refine hq_ 19 (hop_seq_l rfl rfl) rfl rfl pre0 rfl rfl ?_
      refine hseq_nil ?_
      refine h14 _ ?_
      refine hw_cond _ rfl (fun hc2 => ?_) (fun hc2 => ?_)
      · have hr2 := hc2; (try simp only [decide_eq_true_eq, decide_eq_false_iff_not, Bool.and_eq_true, Bool.or_eq_true, Bool.not_eq_true', Bool.or_eq_false_iff, beq_iff_eq, bne_iff_ne, ne_eq, beq_eq_false_iff_ne, bne_eq_false_iff_eq, Bool.not_eq_true, Bool.not_eq_false, Bool.not_eq_false', Int.toNat_natCast, Int.reduceToNat] at hc2)
        refine hw_seq (fun Nh15 h15 => ?_)
        refine hw_region ?_
        refine hq_ 2 (hop_assign rfl) rfl rfl pre0 rfl rfl ?_
        refine hq_ 3 (hop_assign rfl) rfl rfl pre0 rfl rfl ?_
        refine hseq_nil ?_
        refine h15 _ ?_
        refine hw_ret ?_
        refine hq_then_ret ?_
        refine hq_block_ret ?_
        refine hq_then_ret ?_
        refine hq_then_ret ?_
        refine hq_block_ret ?_
        refine hq_then_ret ?_
        refine hq_ret2 rfl (rval_tmp rfl) (rval_tmp rfl) [] rfl pre0 ?_
        have e : wordsV l = none := words_bad (by simpa using hc0) (getD_mem (by omega)) (w := (splitL 32 l).getD k []) (by have h2 : (splitL 32 l).getD k [] = [] := (by simpa using hc2); rw [h2]; rfl); rw [e]; exact fz_t2 (.nil 0 1 _ (by decide) none) (.imm _)
      · have hr2 := hc2; (try simp only [decide_eq_true_eq, decide_eq_false_iff_not, Bool.and_eq_true, Bool.or_eq_true, Bool.not_eq_true', Bool.or_eq_false_iff, beq_iff_eq, bne_iff_ne, ne_eq, beq_eq_false_iff_ne, bne_eq_false_iff_eq, Bool.not_eq_true, Bool.not_eq_false, Bool.not_eq_false', Int.toNat_natCast, Int.reduceToNat] at hc2)
        refine hw_skip ?_
        refine h13 _ ?_
        refine hw_seq (fun Nh16 h16 => ?_)
        have hpk := piece_len (getD_mem (ls := splitL 32 l) (k := k) (by omega))
        refine hw_region ?_
        refine hq_ 20 (hop_move rfl) rfl rfl pre0 rfl rfl ?_
        refine hq_ 21 (hop_len_strl (T := 9) rfl (by kernel_rfl) rfl) rfl rfl pre0 rfl rfl ?_
        refine hq_ 22 (hop_move rfl) rfl rfl pre0 rfl rfl ?_
        refine hseq_nil ?_
        refine h16 _ ?_
        refine hw_block ?_
        refine hw_loopc (α := Nat) (fun x c => ⟨33, [(12, .v (strsV (splitL 32 l))), (13, .v (intV (splitL 32 l).length)), (4, .v (strsV (splitL 32 l))), (14, .v (intV k)), (6, .v (strV ((splitL 32 l).getD k []))), (21, .v (intV ((splitL 32 l).getD k []).length)), (22, .v (intV x))], [], c⟩) (fun x => x ≤ ((splitL 32 l).getD k []).length ∧ ∀ i, i < x → plainB (((splitL 32 l).getD k []).getD i 0) = true) (fun x => ((splitL 32 l).getD k []).length - x) (0) (by exact ⟨Nat.zero_le _, fun i h => absurd h (Nat.not_lt_zero _)⟩) (hsub_of rfl (Nat.le_refl _) (TmSub.cons rfl (Sb.refl _) (TmSub.cons rfl (Sb.refl _) (TmSub.cons rfl (Sb.refl _) (TmSub.cons rfl (Sb.refl _) (TmSub.cons rfl (Sb.refl _) (TmSub.cons rfl (Sb.refl _) (TmSub.cons rfl (Sb.refl _) TmSub.nil))))))) HpSub.nil) (fun j c hx NhL17 hL17 => ?_)
        (try dsimp only at hx hL17 ⊢)
        obtain ⟨hj, hpl⟩ := hx
        refine hw_seq (fun Nh18 h18 => ?_)
        refine hw_region ?_
        refine hq_ 23 (hop_lss rfl rfl) rfl rfl pre0 rfl rfl ?_
        refine hseq_nil ?_
        refine h18 _ ?_
        refine hw_seq (fun Nh19 h19 => ?_)
        refine hw_cond _ rfl (fun hc3 => ?_) (fun hc3 => ?_)
        · have hr3 := hc3; (try simp only [decide_eq_true_eq, decide_eq_false_iff_not, Bool.and_eq_true, Bool.or_eq_true, Bool.not_eq_true', Bool.or_eq_false_iff, beq_iff_eq, bne_iff_ne, ne_eq, beq_eq_false_iff_ne, bne_eq_false_iff_eq, Bool.not_eq_true, Bool.not_eq_false, Bool.not_eq_false', Int.toNat_natCast, Int.reduceToNat] at hc3)
          refine hw_skip ?_
          refine h19 _ ?_
          refine hw_seq (fun Nh20 h20 => ?_)
          refine hw_block ?_
          refine hw_seq (fun Nh21 h21 => ?_)
          refine hw_region ?_
          refine hq_ 24 (hop_move rfl) rfl rfl pre0 rfl rfl ?_
          refine hq_ 7 (hop_assign rfl) rfl rfl pre0 rfl rfl ?_
          refine hseq_nil ?_
          refine h21 _ ?_
          refine hw_seq (fun Nh22 h22 => ?_)
          refine hw_region ?_
          refine hq_ 25 (hop_move rfl) rfl rfl pre0 rfl rfl ?_
          refine hq_ 26 (hop_move rfl) rfl rfl pre0 rfl rfl ?_
          refine hq_ 27 (hop_ix_strl (by kernel_rfl) rfl rfl (by first | exact Nat.le_of_ble_eq_true rfl | omega | (dsimp only; omega) | (simp <;> omega)) (by first | exact Nat.le_of_ble_eq_true rfl | omega | (dsimp only; omega) | (simp <;> omega))) rfl rfl pre0 rfl rfl ?_
          refine hq_ 28 (hop_call0 (xs := [_]) (plain_h (((splitL 32 l).getD k []).getD j 0) _ rfl) ⟨rfl, trivial⟩ ⟨(Fz.eq rfl), trivial⟩) rfl rfl pre0 rfl rfl ?_
          refine hq_ 29 (hop_not rfl) rfl rfl pre0 rfl rfl ?_
          refine hseq_nil ?_
          refine h22 _ ?_
          refine hw_cond _ rfl (fun hc4 => ?_) (fun hc4 => ?_)
          · have hr4 := hc4; (try simp only [decide_eq_true_eq, decide_eq_false_iff_not, Bool.and_eq_true, Bool.or_eq_true, Bool.not_eq_true', Bool.or_eq_false_iff, beq_iff_eq, bne_iff_ne, ne_eq, beq_eq_false_iff_ne, bne_eq_false_iff_eq, Bool.not_eq_true, Bool.not_eq_false, Bool.not_eq_false', Int.toNat_natCast, Int.reduceToNat] at hc4)
            refine hw_seq (fun Nh23 h23 => ?_)
            refine hw_region ?_
            refine hq_ 2 (hop_assign rfl) rfl rfl pre0 rfl rfl ?_
            refine hq_ 3 (hop_assign rfl) rfl rfl pre0 rfl rfl ?_
            refine hseq_nil ?_
            refine h23 _ ?_
            refine hw_ret ?_
            refine hq_block_ret ?_
            refine hq_then_ret ?_
            refine hq_then_ret ?_
            refine hq_block_ret ?_
            refine hq_block_ret ?_
            refine hq_then_ret ?_
            refine hq_then_ret ?_
            refine hq_block_ret ?_
            refine hq_then_ret ?_
            refine hq_ret2 rfl (rval_tmp rfl) (rval_tmp rfl) [] rfl pre0 ?_
            have e : wordsV l = none := words_bad (by simpa using hc0) (getD_mem (by omega)) (w := (splitL 32 l).getD k []) (wordOk_at (j := j) (by omega) (by simpa using hc4)); rw [e]; exact fz_t2 (.nil 0 1 _ (by decide) none) (.imm _)
          · have hr4 := hc4; (try simp only [decide_eq_true_eq, decide_eq_false_iff_not, Bool.and_eq_true, Bool.or_eq_true, Bool.not_eq_true', Bool.or_eq_false_iff, beq_iff_eq, bne_iff_ne, ne_eq, beq_eq_false_iff_ne, bne_eq_false_iff_eq, Bool.not_eq_true, Bool.not_eq_false, Bool.not_eq_false', Int.toNat_natCast, Int.reduceToNat] at hc4)
            refine hw_skip ?_
            refine hq_block ?_
            refine h20 _ ?_
            refine hw_region ?_
            first
            | refine hq_ 30 (hop_addi rfl rfl rfl (by first | exact Nat.le_of_ble_eq_true rfl | omega | (dsimp only; omega) | (simp <;> omega)) (by first | exact Nat.le_of_ble_eq_true rfl | omega | (dsimp only; omega) | (simp <;> omega))) rfl rfl pre0 rfl rfl ?_
            | refine hq_ 30 (hop_add rfl rfl) rfl rfl pre0 rfl rfl ?_
            refine hq_ 22 (hop_move rfl) rfl rfl pre0 rfl rfl ?_
            refine hseq_nil ?_
            exact hL17 (j + 1) _ _ (by (try dsimp only); exact ⟨by omega, fun i hi => by rcases Nat.lt_or_ge i j with h | h; exact hpl i h; have : i = j := (by omega); subst this; simpa using hc4⟩) (by (try dsimp only); omega) (hsub_of rfl (Nat.le_refl _) (TmSub.cons rfl (Sb.refl _) (TmSub.cons rfl (Sb.refl _) (TmSub.cons rfl (Sb.refl _) (TmSub.cons rfl (Sb.refl _) (TmSub.cons rfl (Sb.refl _) (TmSub.cons rfl (Sb.refl _) (TmSub.cons rfl (Sb.refl _) TmSub.nil))))))) HpSub.nil)
        · have hr3 := hc3; (try simp only [decide_eq_true_eq, decide_eq_false_iff_not, Bool.and_eq_true, Bool.or_eq_true, Bool.not_eq_true', Bool.or_eq_false_iff, beq_iff_eq, bne_iff_ne, ne_eq, beq_eq_false_iff_ne, bne_eq_false_iff_eq, Bool.not_eq_true, Bool.not_eq_false, Bool.not_eq_false', Int.toNat_natCast, Int.reduceToNat] at hc3)
          refine hw_exit ?_
          refine hq_then_exit ?_
          refine hq_then_exit ?_
          refine hq_block_here ?_
          refine hq_block ?_
          refine h11 _ ?_
          refine hw_region ?_
          first
          | refine hq_ 31 (hop_addi rfl rfl rfl (by first | exact Nat.le_of_ble_eq_true rfl | omega | (dsimp only; omega) | (simp <;> omega)) (by first | exact Nat.le_of_ble_eq_true rfl | omega | (dsimp only; omega) | (simp <;> omega))) rfl rfl pre0 rfl rfl ?_
          | refine hq_ 31 (hop_add rfl rfl) rfl rfl pre0 rfl rfl ?_
          refine hq_ 14 (hop_move rfl) rfl rfl pre0 rfl rfl ?_
          refine hseq_nil ?_
          exact hL8 (k + 1) _ _ (by (try dsimp only); exact ⟨by omega, fun i hi => by rcases Nat.lt_or_ge i k with h | h; exact hok i h; have : i = k := (by omega); subst this; exact wordOk_good hc2 (fun j hj => hpl j (by omega))⟩) (by (try dsimp only); omega) (hsub_of rfl (Nat.le_refl _) (TmSub.cons rfl (Sb.refl _) (TmSub.cons rfl (Sb.refl _) (TmSub.cons rfl (Sb.refl _) (TmSub.cons rfl (Sb.refl _) TmSub.nil)))) HpSub.nil)
    · have hr1 := hc1; (try simp only [decide_eq_true_eq, decide_eq_false_iff_not, Bool.and_eq_true, Bool.or_eq_true, Bool.not_eq_true', Bool.or_eq_false_iff, beq_iff_eq, bne_iff_ne, ne_eq, beq_eq_false_iff_ne, bne_eq_false_iff_eq, Bool.not_eq_true, Bool.not_eq_false, Bool.not_eq_false', Int.toNat_natCast, Int.reduceToNat] at hc1)
      refine hw_exit ?_
      refine hq_then_exit ?_
      refine hq_then_exit ?_
      refine hq_block_here ?_
      refine h6 _ ?_
      refine hw_seq (fun Nh24 h24 => ?_)
      refine hw_region ?_
      refine hq_ 32 (hop_move rfl) rfl rfl pre0 rfl rfl ?_
      refine hq_ 2 (hop_assign rfl) rfl rfl pre0 rfl rfl ?_
      refine hq_ 3 (hop_assign rfl) rfl rfl pre0 rfl rfl ?_
      refine hseq_nil ?_
      refine h24 _ ?_
      refine hw_ret ?_
      refine hq_ret2 rfl (rval_tmp rfl) (rval_tmp rfl) [] rfl pre0 ?_
      have e : wordsV l = some (splitL 32 l) := words_good (by simpa using hc0) (fun w hw => by obtain ⟨i, hi, rfl⟩ := List.getElem_of_mem hw; have := hok i (by omega); simpa [List.getD_eq_getElem?_getD, hi] using this); rw [e]; exact fz_t2 Frz.fz (.imm _)
theorem getD_dropLast {ls : List (List UInt8)} {i : Nat} (h : i < ls.length - 1) : ls.dropLast.getD i [] = ls.getD i [] := by
  have h2 : i < ls.length := by omega
  simp [List.getD_eq_getElem?_getD, List.getElem?_dropLast, h, h2]
theorem fz_strs {sh : List (Nat × HObj)} {n : Nat} {f : Nat → Nat → HV} (ls : List (List UInt8)) (hn : n = ls.length) (hf : ∀ i, i < ls.length → f i 0 = strV (ls.getD i [])) : Fz sh (.sl 1 n f) (strsV ls) := by
  subst hn
  refine .sl _ _ _ _ fun i j hi hj => ?_
  obtain rfl : j = 0 := by omega
  rw [hf i hi]; exact .imm _
theorem getLast_D (ls : List (List UInt8)) (h : ls ≠ []) : ls.getD (ls.length - 1) [] = ls.getLast h := by
  rw [List.getLast_eq_getElem, List.getD_eq_getElem?_getD, List.getElem?_eq_getElem (by have := List.length_pos_iff.2 h; omega)]; rfl
theorem lines_h (l : List UInt8) (hl : l.length ≤ 1000000) : HPure Tryd.prog 26 [strV l] (linesH (linesV l)) := by
  have hsl := splitL_len 10 l
  have hs0 := List.length_pos_iff.2 (splitL_ne 10 l)
  refine hpure_of Tryd.func26 rfl (by kernel_rfl) _ _ _ rfl 28 rfl rfl (fun w F => ?_)
  refine hw_seq (fun Nh1 h1 => ?_)
  refine hw_region ?_
  refine hq_ 2 (hop_assign rfl) rfl rfl pre0 rfl rfl ?_
  refine hq_ 3 (hop_assign rfl) rfl rfl pre0 rfl rfl ?_
  refine hq_ 4 (hop_assign rfl) rfl rfl pre0 rfl rfl ?_
  refine hseq_nil ?_
  refine h1 _ ?_
  refine hw_seq (fun Nh2 h2 => ?_)
  refine hw_seq (fun Nh3 h3 => ?_)
  refine hw_region ?_
  refine hq_ 7 (hop_move rfl) rfl rfl pre0 rfl rfl ?_
  refine hq_ 8 (hop_len_strl (T := 9) rfl (by kernel_rfl) rfl) rfl rfl pre0 rfl rfl ?_
  refine hq_ 9 (hop_gtr rfl rfl) rfl rfl pre0 rfl rfl ?_
  refine hseq_nil ?_
  refine h3 _ ?_
  refine hw_cond _ rfl (fun hc0 => ?_) (fun hc0 => ?_)
  · have hr0 := hc0; (try simp only [decide_eq_true_eq, decide_eq_false_iff_not, Bool.and_eq_true, Bool.or_eq_true, Bool.not_eq_true', Bool.or_eq_false_iff, beq_iff_eq, bne_iff_ne, ne_eq, beq_eq_false_iff_ne, bne_eq_false_iff_eq, Bool.not_eq_true, Bool.not_eq_false, Bool.not_eq_false', Int.toNat_natCast, Int.reduceToNat] at hc0)
    refine hw_seq (fun Nh4 h4 => ?_)
    refine hw_region ?_
    refine hq_ 2 (hop_assign rfl) rfl rfl pre0 rfl rfl ?_
    refine hq_ 3 (hop_assign rfl) rfl rfl pre0 rfl rfl ?_
    refine hq_ 4 (hop_assign rfl) rfl rfl pre0 rfl rfl ?_
    refine hseq_nil ?_
    refine h4 _ ?_
    refine hw_ret ?_
    refine hq_then_ret ?_
    refine hq_ret3 rfl (rval_tmp rfl) (rval_tmp rfl) (rval_tmp rfl) [] rfl pre0 ?_
    have e : linesV l = ([], 0, 4) := (by unfold linesV; rw [if_pos (by omega)]); rw [e]; exact fz_t3 (.nil 0 1 _ (by decide) none) (.imm _) (.imm _)
  · have hr0 := hc0; (try simp only [decide_eq_true_eq, decide_eq_false_iff_not, Bool.and_eq_true, Bool.or_eq_true, Bool.not_eq_true', Bool.or_eq_false_iff, beq_iff_eq, bne_iff_ne, ne_eq, beq_eq_false_iff_ne, bne_eq_false_iff_eq, Bool.not_eq_true, Bool.not_eq_false, Bool.not_eq_false', Int.toNat_natCast, Int.reduceToNat] at hc0)
    refine hw_skip ?_
    refine h2 _ ?_
    refine hw_seq (fun Nh5 h5 => ?_)
    refine hw_seq (fun Nh6 h6 => ?_)
    refine hw_region ?_
    refine hq_ 10 (hop_move rfl) rfl rfl pre0 rfl rfl ?_
    refine hq_ 11 (hop_seq_l rfl rfl) rfl rfl pre0 rfl rfl ?_
    refine hseq_nil ?_
    refine h6 _ ?_
    refine hw_cond _ rfl (fun hc1 => ?_) (fun hc1 => ?_)
    · have hr1 := hc1; (try simp only [decide_eq_true_eq, decide_eq_false_iff_not, Bool.and_eq_true, Bool.or_eq_true, Bool.not_eq_true', Bool.or_eq_false_iff, beq_iff_eq, bne_iff_ne, ne_eq, beq_eq_false_iff_ne, bne_eq_false_iff_eq, Bool.not_eq_true, Bool.not_eq_false, Bool.not_eq_false', Int.toNat_natCast, Int.reduceToNat] at hc1)
      refine hw_seq (fun Nh7 h7 => ?_)
      refine hw_region ?_
      refine hq_ 2 (hop_assign rfl) rfl rfl pre0 rfl rfl ?_
      refine hq_ 3 (hop_assign rfl) rfl rfl pre0 rfl rfl ?_
      refine hq_ 4 (hop_assign rfl) rfl rfl pre0 rfl rfl ?_
      refine hseq_nil ?_
      refine h7 _ ?_
      refine hw_ret ?_
      refine hq_then_ret ?_
      refine hq_ret3 rfl (rval_tmp rfl) (rval_tmp rfl) (rval_tmp rfl) [] rfl pre0 ?_
      obtain rfl : l = [] := (by simpa using hc1); exact fz_t3 (.nil 0 1 _ (by decide) none) (.imm _) (.imm _)
    · have hr1 := hc1; (try simp only [decide_eq_true_eq, decide_eq_false_iff_not, Bool.and_eq_true, Bool.or_eq_true, Bool.not_eq_true', Bool.or_eq_false_iff, beq_iff_eq, bne_iff_ne, ne_eq, beq_eq_false_iff_ne, bne_eq_false_iff_eq, Bool.not_eq_true, Bool.not_eq_false, Bool.not_eq_false', Int.toNat_natCast, Int.reduceToNat] at hc1)
      refine hw_skip ?_
      refine h5 _ ?_
      refine hw_seq (fun Nh8 h8 => ?_)
      refine hw_region ?_
      refine hq_ 12 (hop_move rfl) rfl rfl pre0 rfl rfl ?_
      refine hq_ 13 (hop_call0 (xs := [_, _]) (split_h l 10 hl) ⟨rfl, ⟨rfl, trivial⟩⟩ ⟨(Fz.eq rfl), ⟨(Fz.eq rfl), trivial⟩⟩) rfl rfl pre0 rfl rfl ?_
      refine hq_ 5 (hop_assign rfl) rfl rfl pre0 rfl rfl ?_
      refine hseq_nil ?_
      refine h8 _ ?_
      refine hw_seq (fun Nh9 h9 => ?_)
      refine hw_seq (fun Nh10 h10 => ?_)
      refine hw_region ?_
      refine hq_ 14 (hop_move rfl) rfl rfl pre0 rfl rfl ?_
      first
      | refine hq_ 15 (hop_len_sl (T := 47) rfl (elOf_spec el_47).1 rfl) rfl rfl pre0 rfl rfl ?_
      | refine hq_ 15 (hop_len_os (T := 47) rfl (elOf_spec el_47).1 rfl) rfl rfl pre0 rfl rfl ?_
      | refine hq_ 15 (hop_len_nil (T := 47) rfl (elOf_spec el_47).1 rfl) rfl rfl pre0 rfl rfl ?_
      refine hq_ 6 (hop_assign rfl) rfl rfl pre0 rfl rfl ?_
      refine hseq_nil ?_
      refine h10 _ ?_
      refine hw_seq (fun Nh11 h11 => ?_)
      refine hw_region ?_
      refine hq_ 16 (hop_move rfl) rfl rfl pre0 rfl rfl ?_
      refine hq_ 17 (hop_move rfl) rfl rfl pre0 rfl rfl ?_
      first
      | refine hq_ 18 (hop_subi rfl rfl rfl (by first | exact Nat.le_of_ble_eq_true rfl | omega | (dsimp only; omega) | (simp <;> omega)) (by first | exact Nat.le_of_ble_eq_true rfl | omega | (dsimp only; omega) | (simp <;> omega))) rfl rfl pre0 rfl rfl ?_
      | refine hq_ 18 (hop_sub rfl rfl) rfl rfl pre0 rfl rfl ?_
      first
      | refine hq_ 19 (hop_ia_sl el_47 rfl rfl (by first | exact Nat.le_of_ble_eq_true rfl | omega | (dsimp only; omega) | (simp <;> omega)) (by first | exact Nat.le_of_ble_eq_true rfl | omega | (dsimp only; omega) | (simp <;> omega)) (by first | exact Nat.le_of_ble_eq_true rfl | omega | (dsimp only; omega) | (simp <;> omega))) rfl rfl pre0 rfl rfl ?_
      | refine hq_ 19 (hol_ia_os el_47 rfl rfl (by first | exact Nat.le_of_ble_eq_true rfl | omega | (dsimp only; omega) | (simp <;> omega)) (by first | exact Nat.le_of_ble_eq_true rfl | omega | (dsimp only; omega) | (simp <;> omega))) rfl rfl (pre1 rfl) rfl rfl ?_
      first
      | refine hq_ 20 (HOp.val (v' := strV ((splitL 10 l).getLast (splitL_ne 10 l))) (hol_load ty_9 rfl (by first | exact Nat.le_of_ble_eq_true rfl | omega | (dsimp only; omega) | (simp <;> omega)) (by first | exact Nat.le_of_ble_eq_true rfl | omega | (dsimp only; omega) | (simp <;> omega)) (fun h => by first | rfl | cases h)) ((by rw [← getLast_D, show (splitL 10 l).length - 1 = ((splitL 10 l).length - 1 : Int).toNat from by omega]; rfl))) rfl rfl (pre1 rfl) rfl rfl ?_
      | refine hq_ 20 (HOp.val (v' := strV ((splitL 10 l).getLast (splitL_ne 10 l))) (hop_load_fp ty_9 rfl (by first | exact Nat.le_of_ble_eq_true rfl | omega | (dsimp only; omega) | (simp <;> omega)) (fun h => by first | rfl | cases h)) ((by rw [← getLast_D, show (splitL 10 l).length - 1 = ((splitL 10 l).length - 1 : Int).toNat from by omega]; rfl))) rfl rfl pre0 rfl rfl ?_
      refine hq_ 21 (hop_sne_l rfl rfl) rfl rfl pre0 rfl rfl ?_
      refine hseq_nil ?_
      refine h11 _ ?_
      refine hw_cond _ rfl (fun hc2 => ?_) (fun hc2 => ?_)
      · have hr2 := hc2; (try simp only [decide_eq_true_eq, decide_eq_false_iff_not, Bool.and_eq_true, Bool.or_eq_true, Bool.not_eq_true', Bool.or_eq_false_iff, beq_iff_eq, bne_iff_ne, ne_eq, beq_eq_false_iff_ne, bne_eq_false_iff_eq, Bool.not_eq_true, Bool.not_eq_false, Bool.not_eq_false', Int.toNat_natCast, Int.reduceToNat] at hc2)
        refine hw_seq (fun Nh12 h12 => ?_)
        refine hw_region ?_
        refine hq_ 22 (hop_move rfl) rfl rfl pre0 rfl rfl ?_
        refine hq_ 2 (hop_assign rfl) rfl rfl pre0 rfl rfl ?_
        refine hq_ 3 (hop_assign rfl) rfl rfl pre0 rfl rfl ?_
        refine hq_ 4 (hop_assign rfl) rfl rfl pre0 rfl rfl ?_
        refine hseq_nil ?_
        refine h12 _ ?_
        refine hw_ret ?_
        refine hq_then_ret ?_
        refine hq_ret3 rfl (rval_tmp rfl) (rval_tmp rfl) (rval_tmp rfl) [] rfl pre0 ?_
        have e : linesV l = ([], (splitL 10 l).length, 2) := (by unfold linesV; rw [if_neg (by omega), if_neg (by simpa using hc1), if_neg (by simpa using hc2)]); rw [e]; exact fz_t3 (.nil 0 1 _ (by decide) none) (.imm _) (.imm _)
      · have hr2 := hc2; (try simp only [decide_eq_true_eq, decide_eq_false_iff_not, Bool.and_eq_true, Bool.or_eq_true, Bool.not_eq_true', Bool.or_eq_false_iff, beq_iff_eq, bne_iff_ne, ne_eq, beq_eq_false_iff_ne, bne_eq_false_iff_eq, Bool.not_eq_true, Bool.not_eq_false, Bool.not_eq_false', Int.toNat_natCast, Int.reduceToNat] at hc2)
        refine hw_skip ?_
        refine h9 _ ?_
        refine hw_seq (fun Nh13 h13 => ?_)
        refine hw_region ?_
        refine hq_ 23 (hop_move rfl) rfl rfl pre0 rfl rfl ?_
        refine hq_ 24 (hop_move rfl) rfl rfl pre0 rfl rfl ?_
        first
        | refine hq_ 25 (hop_len_sl (T := 47) rfl (elOf_spec el_47).1 rfl) rfl rfl pre0 rfl rfl ?_
        | refine hq_ 25 (hop_len_os (T := 47) rfl (elOf_spec el_47).1 rfl) rfl rfl pre0 rfl rfl ?_
        | refine hq_ 25 (hop_len_nil (T := 47) rfl (elOf_spec el_47).1 rfl) rfl rfl pre0 rfl rfl ?_
        first
        | refine hq_ 26 (hop_subi rfl rfl rfl (by first | exact Nat.le_of_ble_eq_true rfl | omega | (dsimp only; omega) | (simp <;> omega)) (by first | exact Nat.le_of_ble_eq_true rfl | omega | (dsimp only; omega) | (simp <;> omega))) rfl rfl pre0 rfl rfl ?_
        | refine hq_ 26 (hop_sub rfl rfl) rfl rfl pre0 rfl rfl ?_
        first
        | refine hq_ 27 (hop_cut_sl el_47 rfl (.inl ⟨rfl, rfl⟩) (.inr ⟨_, _, rfl, rfl⟩) (by first | exact Nat.le_of_ble_eq_true rfl | omega | (dsimp only; omega) | (simp <;> omega)) (by first | exact Nat.le_of_ble_eq_true rfl | omega | (dsimp only; omega) | (simp <;> omega)) (by first | exact Nat.le_of_ble_eq_true rfl | omega | (dsimp only; omega) | (simp <;> omega))) rfl rfl pre0 rfl rfl ?_
        | refine hq_ 27 (hol_cut_os el_47 rfl (.inl ⟨rfl, rfl⟩) (.inr ⟨_, _, rfl, rfl⟩) (by first | exact Nat.le_of_ble_eq_true rfl | omega | (dsimp only; omega) | (simp <;> omega)) (by first | exact Nat.le_of_ble_eq_true rfl | omega | (dsimp only; omega) | (simp <;> omega)) (by first | exact Nat.le_of_ble_eq_true rfl | omega | (dsimp only; omega) | (simp <;> omega))) rfl rfl (pre1 rfl) rfl rfl ?_
        refine hq_ 2 (hop_assign rfl) rfl rfl pre0 rfl rfl ?_
        refine hq_ 3 (hop_assign rfl) rfl rfl pre0 rfl rfl ?_
        refine hq_ 4 (hop_assign rfl) rfl rfl pre0 rfl rfl ?_
        refine hseq_nil ?_
        refine h13 _ ?_
        refine hw_ret ?_
        refine hq_ret3 rfl (rval_tmp rfl) (rval_tmp rfl) (rval_tmp rfl) [] rfl pre0 ?_
        have e : linesV l = ((splitL 10 l).dropLast, 0, 0) := (by unfold linesV; rw [if_neg (by omega), if_neg (by simpa using hc1), if_pos (by simpa using hc2)]); rw [e]; exact fz_t3 (fz_strs _ (by rw [List.length_dropLast]; omega) (fun i hi => by rw [List.length_dropLast] at hi; show strV _ = strV _; rw [show Int.toNat 0 + i = i from Nat.zero_add i, getD_dropLast hi])) (.imm _) (.imm _)
theorem same_h (a b : List (List UInt8)) (ha : a.length ≤ 1000000) : HPure Tryd.prog 40 [strsV a, strsV b] (boolV (decide (a = b))) := by
  refine hpure_of Tryd.func40 rfl (by kernel_rfl) _ _ _ rfl 26 rfl rfl (fun w F => ?_)
  refine hw_seq (fun Nh1 h1 => ?_)
  refine hw_region ?_
  refine hq_ 4 (hop_assign rfl) rfl rfl pre0 rfl rfl ?_
  refine hseq_nil ?_
  refine h1 _ ?_
  refine hw_seq (fun Nh2 h2 => ?_)
  refine hw_seq (fun Nh3 h3 => ?_)
  refine hw_region ?_
  refine hq_ 6 (hop_move rfl) rfl rfl pre0 rfl rfl ?_
  first
  | refine hq_ 7 (hop_len_sl (T := 47) rfl (elOf_spec el_47).1 rfl) rfl rfl pre0 rfl rfl ?_
  | refine hq_ 7 (hop_len_os (T := 47) rfl (elOf_spec el_47).1 rfl) rfl rfl pre0 rfl rfl ?_
  | refine hq_ 7 (hop_len_nil (T := 47) rfl (elOf_spec el_47).1 rfl) rfl rfl pre0 rfl rfl ?_
  refine hq_ 8 (hop_move rfl) rfl rfl pre0 rfl rfl ?_
  first
  | refine hq_ 9 (hop_len_sl (T := 47) rfl (elOf_spec el_47).1 rfl) rfl rfl pre0 rfl rfl ?_
  | refine hq_ 9 (hop_len_os (T := 47) rfl (elOf_spec el_47).1 rfl) rfl rfl pre0 rfl rfl ?_
  | refine hq_ 9 (hop_len_nil (T := 47) rfl (elOf_spec el_47).1 rfl) rfl rfl pre0 rfl rfl ?_
  refine hq_ 10 (hop_neq rfl rfl) rfl rfl pre0 rfl rfl ?_
  refine hseq_nil ?_
  refine h3 _ ?_
  refine hw_cond _ rfl (fun hc0 => ?_) (fun hc0 => ?_)
  · have hr0 := hc0; (try simp only [decide_eq_true_eq, decide_eq_false_iff_not, Bool.and_eq_true, Bool.or_eq_true, Bool.not_eq_true', Bool.or_eq_false_iff, beq_iff_eq, bne_iff_ne, ne_eq, beq_eq_false_iff_ne, bne_eq_false_iff_eq, Bool.not_eq_true, Bool.not_eq_false, Bool.not_eq_false', Int.toNat_natCast, Int.reduceToNat] at hc0)
    refine hw_seq (fun Nh4 h4 => ?_)
    refine hw_region ?_
    refine hq_ 4 (hop_assign rfl) rfl rfl pre0 rfl rfl ?_
    refine hseq_nil ?_
    refine h4 _ ?_
    refine hw_ret ?_
    refine hq_then_ret ?_
    refine hq_ret1 rfl (rval_tmp rfl) [] rfl pre0 ?_
    exact fz_bool (by symm; simp only [decide_eq_false_iff_not]; intro h; subst h; omega)
  · have hr0 := hc0; (try simp only [decide_eq_true_eq, decide_eq_false_iff_not, Bool.and_eq_true, Bool.or_eq_true, Bool.not_eq_true', Bool.or_eq_false_iff, beq_iff_eq, bne_iff_ne, ne_eq, beq_eq_false_iff_ne, bne_eq_false_iff_eq, Bool.not_eq_true, Bool.not_eq_false, Bool.not_eq_false', Int.toNat_natCast, Int.reduceToNat] at hc0)
    refine hw_skip ?_
    refine h2 _ ?_
    refine hw_seq (fun Nh5 h5 => ?_)
    refine hw_seq (fun Nh6 h6 => ?_)
    refine hw_region ?_
    refine hq_ 5 (hop_assign rfl) rfl rfl pre0 rfl rfl ?_
    refine hseq_nil ?_
    refine h6 _ ?_
    refine hw_block ?_
    refine hw_loopc (α := Nat) (fun x c => ⟨26, [(0, .v (strsV a)), (1, .v (strsV b)), (5, .v (intV x))], [], c⟩) (fun x => x ≤ a.length ∧ a.length = b.length ∧ ∀ i, i < x → a.getD i [] = b.getD i []) (fun x => a.length - x) (0) (by exact ⟨Nat.zero_le _, by omega, fun i h => absurd h (Nat.not_lt_zero _)⟩) (hsub_of rfl (Nat.le_refl _) (TmSub.cons rfl (Sb.refl _) (TmSub.cons rfl (Sb.refl _) (TmSub.cons rfl (Sb.refl _) TmSub.nil))) HpSub.nil) (fun k c hx NhL7 hL7 => ?_)
    (try dsimp only at hx hL7 ⊢)
    obtain ⟨hk, hab, hok⟩ := hx
    refine hw_seq (fun Nh8 h8 => ?_)
    refine hw_seq (fun Nh9 h9 => ?_)
    refine hw_region ?_
    refine hq_ 11 (hop_move rfl) rfl rfl pre0 rfl rfl ?_
    refine hq_ 12 (hop_move rfl) rfl rfl pre0 rfl rfl ?_
    first
    | refine hq_ 13 (hop_len_sl (T := 47) rfl (elOf_spec el_47).1 rfl) rfl rfl pre0 rfl rfl ?_
    | refine hq_ 13 (hop_len_os (T := 47) rfl (elOf_spec el_47).1 rfl) rfl rfl pre0 rfl rfl ?_
    | refine hq_ 13 (hop_len_nil (T := 47) rfl (elOf_spec el_47).1 rfl) rfl rfl pre0 rfl rfl ?_
    refine hq_ 14 (hop_lss rfl rfl) rfl rfl pre0 rfl rfl ?_
    refine hseq_nil ?_
    refine h9 _ ?_
    refine hw_cond _ rfl (fun hc1 => ?_) (fun hc1 => ?_)
    · have hr1 := hc1; (try simp only [decide_eq_true_eq, decide_eq_false_iff_not, Bool.and_eq_true, Bool.or_eq_true, Bool.not_eq_true', Bool.or_eq_false_iff, beq_iff_eq, bne_iff_ne, ne_eq, beq_eq_false_iff_ne, bne_eq_false_iff_eq, Bool.not_eq_true, Bool.not_eq_false, Bool.not_eq_false', Int.toNat_natCast, Int.reduceToNat] at hc1)
      refine hw_skip ?_
      refine h8 _ ?_
      refine hw_seq (fun Nh10 h10 => ?_)
      refine hw_block ?_
      refine hw_seq (fun Nh11 h11 => ?_)
      refine hd_start ?_
      refine hd_q 17 (hop_move rfl) rfl rfl pre0 rfl rfl (k' := 1) rfl ?_
      refine hd_q 18 (hop_move rfl) rfl rfl pre0 rfl rfl (k' := 2) rfl ?_
      first
      | refine hd_q 19 (hop_ia_sl el_47 rfl rfl (by first | exact Nat.le_of_ble_eq_true rfl | omega | (dsimp only; omega) | (simp <;> omega)) (by first | exact Nat.le_of_ble_eq_true rfl | omega | (dsimp only; omega) | (simp <;> omega)) (by first | exact Nat.le_of_ble_eq_true rfl | omega | (dsimp only; omega) | (simp <;> omega))) rfl rfl pre0 rfl rfl (k' := 3) rfl ?_
      | refine hd_q 19 (hol_ia_os el_47 rfl rfl (by first | exact Nat.le_of_ble_eq_true rfl | omega | (dsimp only; omega) | (simp <;> omega)) (by first | exact Nat.le_of_ble_eq_true rfl | omega | (dsimp only; omega) | (simp <;> omega))) rfl rfl (pre1 rfl) rfl rfl (k' := 3) rfl ?_
      first
      | refine hd_q 20 (hol_load ty_9 rfl (by first | exact Nat.le_of_ble_eq_true rfl | omega | (dsimp only; omega) | (simp <;> omega)) (by first | exact Nat.le_of_ble_eq_true rfl | omega | (dsimp only; omega) | (simp <;> omega)) (fun h => by first | rfl | cases h)) rfl rfl (pre1 rfl) rfl rfl (k' := 4) rfl ?_
      | refine hd_q 20 (hop_load_fp ty_9 rfl (by first | exact Nat.le_of_ble_eq_true rfl | omega | (dsimp only; omega) | (simp <;> omega)) (fun h => by first | rfl | cases h)) rfl rfl pre0 rfl rfl (k' := 4) rfl ?_
      refine hd_q 21 (hop_move rfl) rfl rfl pre0 rfl rfl (k' := 5) rfl ?_
      refine hd_q 22 (hop_move rfl) rfl rfl pre0 rfl rfl (k' := 6) rfl ?_
      first
      | refine hd_q 23 (hop_ia_sl el_47 rfl rfl (by first | exact Nat.le_of_ble_eq_true rfl | omega | (dsimp only; omega) | (simp <;> omega)) (by first | exact Nat.le_of_ble_eq_true rfl | omega | (dsimp only; omega) | (simp <;> omega)) (by first | exact Nat.le_of_ble_eq_true rfl | omega | (dsimp only; omega) | (simp <;> omega))) rfl rfl pre0 rfl rfl (k' := 7) rfl ?_
      | refine hd_q 23 (hol_ia_os el_47 rfl rfl (by first | exact Nat.le_of_ble_eq_true rfl | omega | (dsimp only; omega) | (simp <;> omega)) (by first | exact Nat.le_of_ble_eq_true rfl | omega | (dsimp only; omega) | (simp <;> omega))) rfl rfl (pre1 rfl) rfl rfl (k' := 7) rfl ?_
      first
      | refine hd_q 24 (hol_load ty_9 rfl (by first | exact Nat.le_of_ble_eq_true rfl | omega | (dsimp only; omega) | (simp <;> omega)) (by first | exact Nat.le_of_ble_eq_true rfl | omega | (dsimp only; omega) | (simp <;> omega)) (fun h => by first | rfl | cases h)) rfl rfl (pre1 rfl) rfl rfl (k' := 8) rfl ?_
      | refine hd_q 24 (hop_load_fp ty_9 rfl (by first | exact Nat.le_of_ble_eq_true rfl | omega | (dsimp only; omega) | (simp <;> omega)) (fun h => by first | rfl | cases h)) rfl rfl pre0 rfl rfl (k' := 8) rfl ?_
      refine hd_q 25 (hop_sne_l rfl rfl) rfl rfl pre0 rfl rfl (k' := 9) rfl ?_
      refine hd_nil (by kernel_rfl) (by kernel_rfl) (c' := c + 9) rfl ?_
      refine h11 _ ?_
      refine hw_cond _ rfl (fun hc2 => ?_) (fun hc2 => ?_)
      · have hr2 := hc2; (try simp only [decide_eq_true_eq, decide_eq_false_iff_not, Bool.and_eq_true, Bool.or_eq_true, Bool.not_eq_true', Bool.or_eq_false_iff, beq_iff_eq, bne_iff_ne, ne_eq, beq_eq_false_iff_ne, bne_eq_false_iff_eq, Bool.not_eq_true, Bool.not_eq_false, Bool.not_eq_false', Int.toNat_natCast, Int.reduceToNat] at hc2)
        refine hw_seq (fun Nh12 h12 => ?_)
        refine hw_region ?_
        refine hq_ 4 (hop_assign rfl) rfl rfl pre0 rfl rfl ?_
        refine hseq_nil ?_
        refine h12 _ ?_
        refine hw_ret ?_
        refine hq_block_ret ?_
        refine hq_then_ret ?_
        refine hq_then_ret ?_
        refine hq_block_ret ?_
        refine hq_then_ret ?_
        refine hq_ret1 rfl (rval_tmp rfl) [] rfl pre0 ?_
        exact fz_bool (by symm; simp only [decide_eq_false_iff_not]; intro h; subst h; simp at hc2)
      · have hr2 := hc2; (try simp only [decide_eq_true_eq, decide_eq_false_iff_not, Bool.and_eq_true, Bool.or_eq_true, Bool.not_eq_true', Bool.or_eq_false_iff, beq_iff_eq, bne_iff_ne, ne_eq, beq_eq_false_iff_ne, bne_eq_false_iff_eq, Bool.not_eq_true, Bool.not_eq_false, Bool.not_eq_false', Int.toNat_natCast, Int.reduceToNat] at hc2)
        refine hw_skip ?_
        refine hq_block ?_
        refine h10 _ ?_
        refine hw_region ?_
        refine hq_ 15 (hop_move rfl) rfl rfl pre0 rfl rfl ?_
        first
        | refine hq_ 16 (hop_addi rfl rfl rfl (by first | exact Nat.le_of_ble_eq_true rfl | omega | (dsimp only; omega) | (simp <;> omega)) (by first | exact Nat.le_of_ble_eq_true rfl | omega | (dsimp only; omega) | (simp <;> omega))) rfl rfl pre0 rfl rfl ?_
        | refine hq_ 16 (hop_add rfl rfl) rfl rfl pre0 rfl rfl ?_
        refine hq_ 5 (hop_assign rfl) rfl rfl pre0 rfl rfl ?_
        refine hseq_nil ?_
        exact hL7 (k + 1) _ _ (by (try dsimp only); exact ⟨by omega, hab, fun i hi => by rcases Nat.lt_or_ge i k with h | h; exact hok i h; have : i = k := (by omega); subst this; simpa using hc2⟩) (by (try dsimp only); omega) (hsub_of rfl (Nat.le_refl _) (TmSub.cons rfl (Sb.refl _) (TmSub.cons rfl (Sb.refl _) (TmSub.cons rfl (Sb.refl _) TmSub.nil))) HpSub.nil)
    · have hr1 := hc1; (try simp only [decide_eq_true_eq, decide_eq_false_iff_not, Bool.and_eq_true, Bool.or_eq_true, Bool.not_eq_true', Bool.or_eq_false_iff, beq_iff_eq, bne_iff_ne, ne_eq, beq_eq_false_iff_ne, bne_eq_false_iff_eq, Bool.not_eq_true, Bool.not_eq_false, Bool.not_eq_false', Int.toNat_natCast, Int.reduceToNat] at hc1)
      refine hw_exit ?_
      refine hq_then_exit ?_
      refine hq_then_exit ?_
      refine hq_block_here ?_
      refine h5 _ ?_
      refine hw_seq (fun Nh13 h13 => ?_)
      refine hw_region ?_
      refine hq_ 4 (hop_assign rfl) rfl rfl pre0 rfl rfl ?_
      refine hseq_nil ?_
      refine h13 _ ?_
      refine hw_ret ?_
      refine hq_ret1 rfl (rval_tmp rfl) [] rfl pre0 ?_
      exact fz_bool (by symm; simp only [decide_eq_true_eq]; exact List.ext_getElem hab (fun i h1 h2 => by have := hok i (by omega); simpa [List.getD_eq_getElem?_getD, h1, h2] using this))
theorem split_none_end {l : List UInt8} {out : List (List UInt8)} {w : List UInt8} {X : List (List UInt8)} (h0 : l ≠ []) (h : splitL 32 l = out ++ w :: X) (hw : wordOk w = false) : wordsV l = none := words_bad h0 (by rw [h]; simp) hw
theorem onto_eq (w : List UInt8) (X : List (List UInt8)) : onto w X = (w ++ X.headD []) :: X.tail := rfl
theorem refSplit_h (l : List UInt8) (hl : l.length ≤ 10000) : HPure Tryd.prog 38 [strV l] (wordsH (wordsV l)) := by
  refine hpure_of Tryd.func38 rfl (by kernel_rfl) _ _ _ rfl 48 rfl rfl (fun w F => ?_)
  refine hw_seq (fun Nh1 h1 => ?_)
  refine hw_region ?_
  refine hq_ 2 (hop_assign rfl) rfl rfl pre0 rfl rfl ?_
  refine hq_ 3 (hop_assign rfl) rfl rfl pre0 rfl rfl ?_
  refine hseq_nil ?_
  refine h1 _ ?_
  refine hw_seq (fun Nh2 h2 => ?_)
  refine hw_region ?_
  refine hq_ 4 (hop_assign rfl) rfl rfl pre0 rfl rfl ?_
  refine hseq_nil ?_
  refine h2 _ ?_
  refine hw_seq (fun Nh3 h3 => ?_)
  refine hw_region ?_
  refine hq_ 5 (hop_assign rfl) rfl rfl pre0 rfl rfl ?_
  refine hseq_nil ?_
  refine h3 _ ?_
  refine hw_seq (fun Nh4 h4 => ?_)
  refine hw_seq (fun Nh5 h5 => ?_)
  refine hw_region ?_
  refine hq_ 6 (hop_assign rfl) rfl rfl pre0 rfl rfl ?_
  refine hseq_nil ?_
  refine h5 _ ?_
  refine hw_block ?_
  refine hw_own 4 4 1 9 ((fun i j => strV (([] : List (List UInt8)).getD i []))) rfl (by decide) rfl (c' := 1) rfl ?_
  refine hw_loopc (α := Nat × List (List UInt8) × List UInt8 × Nat × Nat) (fun x c => ⟨48, [(0, .v (strV l)), (5, .v (strV x.2.2.1)), (6, .v (intV x.1)), (4, .v (.os 4 x.2.2.2.2 0 x.2.2.2.1))], [(4, ⟨x.2.2.2.2, x.2.2.2.1, 1, 9, 0, fun i j => strV (x.2.1.getD i [])⟩)], c⟩) (fun x => splitL 32 l = x.2.1 ++ onto x.2.2.1 (splitL 32 (l.drop x.1)) ∧ x.2.2.2.1 = x.2.1.length ∧ x.1 ≤ l.length ∧ x.2.2.2.1 + x.2.2.1.length ≤ x.1 ∧ (∀ q ∈ x.2.1, wordOk q = true) ∧ x.2.2.1.all plainB = true ∧ (x.2.2.1 = [] → x.1 = 0 ∨ x.1 < l.length)) (fun x => l.length - x.1) ((0, [], [], 0, 0)) (by exact ⟨(onto_nil 32 l).symm, rfl, Nat.zero_le _, Nat.le_refl _, (fun x h => by cases h), rfl, fun _ => .inl rfl⟩) (hsub_of rfl (Nat.le_refl _) (TmSub.cons rfl (Sb.refl _) (TmSub.cons rfl (Sb.refl _) (TmSub.cons rfl (Sb.refl _) (TmSub.cons rfl (Sb.refl _) TmSub.nil)))) (HpSub.cons rfl (OSub.refl _) HpSub.nil)) (fun x c hx NhL6 hL6 => ?_)
  revert hx hL6; obtain ⟨p, out, w, n, g⟩ := x; intro hx hL6; dsimp only at hx hL6 ⊢
  obtain ⟨hL, hn, hp, hnw, hok, hpl, hw0⟩ := hx
  refine hw_seq (fun Nh7 h7 => ?_)
  refine hw_seq (fun Nh8 h8 => ?_)
  refine hw_region ?_
  refine hq_ 7 (hop_move rfl) rfl rfl pre0 rfl rfl ?_
  refine hq_ 8 (hop_move rfl) rfl rfl pre0 rfl rfl ?_
  refine hq_ 9 (hop_len_strl (T := 9) rfl (by kernel_rfl) rfl) rfl rfl pre0 rfl rfl ?_
  refine hq_ 10 (hop_lss rfl rfl) rfl rfl pre0 rfl rfl ?_
  refine hseq_nil ?_
  refine h8 _ ?_
  refine hw_cond _ rfl (fun hc0 => ?_) (fun hc0 => ?_)
  · have hr0 := hc0; (try simp only [decide_eq_true_eq, decide_eq_false_iff_not, Bool.and_eq_true, Bool.or_eq_true, Bool.not_eq_true', Bool.or_eq_false_iff, beq_iff_eq, bne_iff_ne, ne_eq, beq_eq_false_iff_ne, bne_eq_false_iff_eq, Bool.not_eq_true, Bool.not_eq_false, Bool.not_eq_false', Int.toNat_natCast, Int.reduceToNat] at hc0)
    have hd := drop_at (l := l) (p := p) (by omega); have hne : l ≠ [] := (fun h => by rw [h] at hc0; simp only [List.length_nil] at hc0; omega)
    refine hw_skip ?_
    refine h7 _ ?_
    refine hw_seq (fun Nh9 h9 => ?_)
    refine hw_block ?_
    refine hw_seq (fun Nh10 h10 => ?_)
    refine hw_seq (fun Nh11 h11 => ?_)
    refine hw_region ?_
    refine hq_ 13 (hop_move rfl) rfl rfl pre0 rfl rfl ?_
    refine hq_ 14 (hop_move rfl) rfl rfl pre0 rfl rfl ?_
    refine hq_ 15 (hop_ix_strl (by kernel_rfl) rfl rfl (by first | exact Nat.le_of_ble_eq_true rfl | omega | (dsimp only; omega) | (simp <;> omega)) (by first | exact Nat.le_of_ble_eq_true rfl | omega | (dsimp only; omega) | (simp <;> omega))) rfl rfl pre0 rfl rfl ?_
    refine hq_ 16 (hop_eql rfl rfl) rfl rfl pre0 rfl rfl ?_
    refine hseq_nil ?_
    refine h11 _ ?_
    refine hw_cond _ rfl (fun hc1 => ?_) (fun hc1 => ?_)
    · have hr1 := hc1; (try simp only [decide_eq_true_eq, decide_eq_false_iff_not, Bool.and_eq_true, Bool.or_eq_true, Bool.not_eq_true', Bool.or_eq_false_iff, beq_iff_eq, bne_iff_ne, ne_eq, beq_eq_false_iff_ne, bne_eq_false_iff_eq, Bool.not_eq_true, Bool.not_eq_false, Bool.not_eq_false', Int.toNat_natCast, Int.reduceToNat] at hc1)
      have hb : l.getD p 0 = 32 := u8_ext (by show _ = 32; omega); rw [hd, hb, onto_hit] at hL
      refine hw_seq (fun Nh12 h12 => ?_)
      refine hw_seq (fun Nh13 h13 => ?_)
      refine hw_region ?_
      refine hq_ 17 (hop_move rfl) rfl rfl pre0 rfl rfl ?_
      refine hq_ 18 (hop_seq_l rfl rfl) rfl rfl pre0 rfl rfl ?_
      refine hq_ 19 (hop_move rfl) rfl rfl pre0 rfl rfl ?_
      first
      | refine hq_g 20 2 19 false _ (fun hb => hop_move rfl) rfl rfl rfl rfl pre0 rfl rfl rfl ?_
      | refine hq_g2 20 2 19 _ _ false _ (fun hb => hop_move rfl) rfl rfl rfl rfl pre0 rfl rfl rfl ?_
      first
      | refine hq_g 21 2 19 false _ (fun hb => hop_move rfl) rfl rfl rfl rfl pre0 rfl rfl rfl ?_
      | refine hq_g2 21 2 19 _ _ false _ (fun hb => hop_move rfl) rfl rfl rfl rfl pre0 rfl rfl rfl ?_
      first
      | refine hq_g 22 2 19 false _ (fun hb => hop_len_strl (T := 9) rfl (by kernel_rfl) rfl) rfl rfl rfl rfl pre0 rfl rfl rfl ?_
      | refine hq_g2 22 2 19 _ _ false _ (fun hb => hop_len_strl (T := 9) rfl (by kernel_rfl) rfl) rfl rfl rfl rfl pre0 rfl rfl rfl ?_
      first
      | refine hq_g 23 2 19 false _ (fun hb => hop_subi rfl rfl rfl (by first | exact Nat.le_of_ble_eq_true rfl | (simp at hb; first | omega | (dsimp only; omega) | (simp <;> omega))) (by first | exact Nat.le_of_ble_eq_true rfl | (simp at hb; first | omega | (dsimp only; omega) | (simp <;> omega)))) rfl rfl rfl rfl pre0 rfl rfl rfl ?_
      | refine hq_g2 23 2 19 _ _ false _ (fun hb => hop_subi rfl rfl rfl (by first | exact Nat.le_of_ble_eq_true rfl | (simp at hb; first | omega | (dsimp only; omega) | (simp <;> omega))) (by first | exact Nat.le_of_ble_eq_true rfl | (simp at hb; first | omega | (dsimp only; omega) | (simp <;> omega)))) rfl rfl rfl rfl pre0 rfl rfl rfl ?_
      | refine hq_g 23 2 19 false _ (fun hb => hop_sub rfl rfl) rfl rfl rfl rfl pre0 rfl rfl rfl ?_
      | refine hq_g2 23 2 19 _ _ false _ (fun hb => hop_sub rfl rfl) rfl rfl rfl rfl pre0 rfl rfl rfl ?_
      first
      | refine hq_g 24 2 19 false _ (fun hb => hop_eql rfl rfl) rfl rfl rfl rfl pre0 rfl rfl rfl ?_
      | refine hq_g2 24 2 19 _ _ false _ (fun hb => hop_eql rfl rfl) rfl rfl rfl rfl pre0 rfl rfl rfl ?_
      first
      | refine hq_p 25 (hstep_and _ _ rfl rfl rfl) rfl rfl rfl ?_
      | refine hq_p 25 (hstep_or _ _ rfl rfl rfl) rfl rfl rfl ?_
      | refine hq_p 25 (hstep_ite _ _ _ rfl rfl rfl) rfl rfl rfl ?_
      | refine hq_p 25 (hstep_pick _ _ _ _ rfl rfl rfl (fun _ => .refl _) (fun _ => .refl _)) rfl rfl rfl ?_
      refine hseq_nilU (by rfl) (by simp only [dropUn, slots]; exact rfl) ?_
      refine h13 _ ?_
      refine hw_cond _ rfl (fun hc2 => ?_) (fun hc2 => ?_)
      · have hr2 := hc2; (try simp only [decide_eq_true_eq, decide_eq_false_iff_not, Bool.and_eq_true, Bool.or_eq_true, Bool.not_eq_true', Bool.or_eq_false_iff, beq_iff_eq, bne_iff_ne, ne_eq, beq_eq_false_iff_ne, bne_eq_false_iff_eq, Bool.not_eq_true, Bool.not_eq_false, Bool.not_eq_false', Int.toNat_natCast, Int.reduceToNat] at hc2)
        refine hw_seq (fun Nh14 h14 => ?_)
        refine hw_region ?_
        refine hq_ 2 (hop_assign rfl) rfl rfl pre0 rfl rfl ?_
        refine hq_ 3 (hop_assign rfl) rfl rfl pre0 rfl rfl ?_
        refine hseq_nil ?_
        refine h14 _ ?_
        refine hw_ret ?_
        refine hq_then_ret ?_
        refine hq_then_ret ?_
        refine hq_block_ret ?_
        refine hq_then_ret ?_
        refine hq_then_ret ?_
        refine hq_block_ret ?_
        refine hq_then_ret ?_
        refine hq_ret2 rfl (rval_tmp rfl) (rval_tmp rfl) [] rfl pre0 ?_
        have e : wordsV l = none := (by rcases hc2 with h | h; (have h := (by simpa using h : w = []); subst h; exact split_none_end hne hL rfl); (have h2 : l.drop (p + 1) = [] := (List.drop_eq_nil_of_le (by omega)); rw [h2] at hL; exact words_bad hne (w := []) (by rw [hL]; simp [splitL]) rfl)); rw [e]; exact fz_t2 (.nil 0 1 _ (by decide) none) (.imm _)
      · have hr2 := hc2; (try simp only [decide_eq_true_eq, decide_eq_false_iff_not, Bool.and_eq_true, Bool.or_eq_true, Bool.not_eq_true', Bool.or_eq_false_iff, beq_iff_eq, bne_iff_ne, ne_eq, beq_eq_false_iff_ne, bne_eq_false_iff_eq, Bool.not_eq_true, Bool.not_eq_false, Bool.not_eq_false', Int.toNat_natCast, Int.reduceToNat] at hc2)
        have hw1 : ¬ w = [] := hc2.1; have hp1 : p + 1 < l.length := (by omega)
        refine hw_skip ?_
        refine h12 _ ?_
        refine hw_seq (fun Nh15 h15 => ?_)
        refine hw_region ?_
        refine hq_ 26 (hop_move rfl) rfl rfl pre0 rfl rfl ?_
        refine hq_ 27 (hop_move rfl) rfl rfl pre0 rfl rfl ?_
        refine hm_1 28 (hop_buildSlice (id := 28) (hs := [_]) ei_47 (by first | exact Nat.le_of_ble_eq_true rfl | omega | (dsimp only; omega) | (simp <;> omega)) rfl (by first | exact Nat.le_of_ble_eq_true rfl | omega | (dsimp only; omega) | (simp <;> omega)) ⟨rfl, rfl, rfl, rfl, trivial⟩) rfl rfl pre0 rfl rfl (c' := c + 1) rfl ?_
        first
        | refine hm_1 29 (hol_append ei_47 (by first | exact Nat.le_of_ble_eq_true rfl | omega | (dsimp only; omega) | (simp <;> omega)) rfl (by first | exact Nat.le_of_ble_eq_true rfl | omega | (dsimp only; omega) | (simp <;> omega)) (by first | exact Nat.le_of_ble_eq_true rfl | omega | (dsimp only; omega) | (simp <;> omega)) (srl_os0 rfl (by first | exact Nat.le_of_ble_eq_true rfl | omega | (dsimp only; omega) | (simp <;> omega))) (by first | exact Nat.le_of_ble_eq_true rfl | omega | (dsimp only; omega) | (simp <;> omega)) rfl) rfl rfl (preC rfl (pre1 rfl)) rfl rfl (c' := c + 2) rfl ?_
        | refine hm_1 29 (hol_append ei_47 (by first | exact Nat.le_of_ble_eq_true rfl | omega | (dsimp only; omega) | (simp <;> omega)) rfl (by first | exact Nat.le_of_ble_eq_true rfl | omega | (dsimp only; omega) | (simp <;> omega)) (by first | exact Nat.le_of_ble_eq_true rfl | omega | (dsimp only; omega) | (simp <;> omega)) (srl_os rfl (by first | exact Nat.le_of_ble_eq_true rfl | omega | (dsimp only; omega) | (simp <;> omega))) (by first | exact Nat.le_of_ble_eq_true rfl | omega | (dsimp only; omega) | (simp <;> omega)) rfl) rfl rfl (preC rfl (pre1 rfl)) rfl rfl (c' := c + 2) rfl ?_
        | refine hm_1 29 (hol_append ei_47 (by first | exact Nat.le_of_ble_eq_true rfl | omega | (dsimp only; omega) | (simp <;> omega)) rfl (by first | exact Nat.le_of_ble_eq_true rfl | omega | (dsimp only; omega) | (simp <;> omega)) (by first | exact Nat.le_of_ble_eq_true rfl | omega | (dsimp only; omega) | (simp <;> omega)) (src_sl rfl) (by first | exact Nat.le_of_ble_eq_true rfl | omega | (dsimp only; omega) | (simp <;> omega)) rfl) rfl rfl (preC rfl pre0) rfl rfl (c' := c + 2) rfl ?_
        | refine hm_1 29 (hol_append ei_47 (by first | exact Nat.le_of_ble_eq_true rfl | omega | (dsimp only; omega) | (simp <;> omega)) rfl (by first | exact Nat.le_of_ble_eq_true rfl | omega | (dsimp only; omega) | (simp <;> omega)) (by first | exact Nat.le_of_ble_eq_true rfl | omega | (dsimp only; omega) | (simp <;> omega)) (src_nil 1 (fun _ _ => default) rfl) (by first | exact Nat.le_of_ble_eq_true rfl | omega | (dsimp only; omega) | (simp <;> omega)) rfl) rfl rfl (preC rfl pre0) rfl rfl (c' := c + 2) rfl ?_
        refine hq_ 4 (hop_assign rfl) rfl rfl pre0 rfl rfl ?_
        refine hseq_nil ?_
        refine h15 _ ?_
        refine hw_seq (fun Nh16 h16 => ?_)
        refine hw_region ?_
        refine hq_ 5 (hop_assign rfl) rfl rfl pre0 rfl rfl ?_
        refine hseq_nil ?_
        refine h16 _ ?_
        refine hw_exit ?_
        refine hq_then_exit ?_
        refine hq_block_here ?_
        refine h9 _ ?_
        refine hw_region ?_
        refine hq_ 11 (hop_move rfl) rfl rfl pre0 rfl rfl ?_
        first
        | refine hq_ 12 (hop_addi rfl rfl rfl (by first | exact Nat.le_of_ble_eq_true rfl | omega | (dsimp only; omega) | (simp <;> omega)) (by first | exact Nat.le_of_ble_eq_true rfl | omega | (dsimp only; omega) | (simp <;> omega))) rfl rfl pre0 rfl rfl ?_
        | refine hq_ 12 (hop_add rfl rfl) rfl rfl pre0 rfl rfl ?_
        refine hq_ 6 (hop_assign rfl) rfl rfl pre0 rfl rfl ?_
        refine hseq_nil ?_
        exact hL6 ((p + 1, out ++ [w], [], n + 1, _)) _ _ (by (try dsimp only); exact ⟨by rw [onto_nil, hL]; simp, by simp [hn], by omega, by simp; omega, (fun x h => by rcases List.mem_append.1 h with h | h; exact hok x h; simp at h; subst h; unfold wordOk; rw [hpl]; cases x <;> simp_all), rfl, fun _ => .inr (by omega)⟩) (by (try dsimp only); omega) (hsub_of rfl (Nat.le_refl _) (TmSub.cons rfl (Sb.refl _) (TmSub.cons rfl (Sb.refl _) (TmSub.cons rfl (Sb.refl _) (TmSub.cons rfl (Sb.refl _) TmSub.nil)))) (HpSub.cons rfl (OSub.of fun i j hi hj => sb_cat (l := out) (k := [w]) (enc := fun w _ => strV w) (d := []) hn (fun i j _ _ => .refl _) (sb_one (x := w) (enc := fun w _ => strV w) (d := []) (fun j hj => .refl _)) i j (by simp; omega) hj) HpSub.nil))
    · have hr1 := hc1; (try simp only [decide_eq_true_eq, decide_eq_false_iff_not, Bool.and_eq_true, Bool.or_eq_true, Bool.not_eq_true', Bool.or_eq_false_iff, beq_iff_eq, bne_iff_ne, ne_eq, beq_eq_false_iff_ne, bne_eq_false_iff_eq, Bool.not_eq_true, Bool.not_eq_false, Bool.not_eq_false', Int.toNat_natCast, Int.reduceToNat] at hc1)
      have hb : ¬ l.getD p 0 = 32 := (fun h => hc1 (by rw [h]; rfl)); rw [hd, onto_step _ _ _ _ hb] at hL
      refine hw_skip ?_
      refine h10 _ ?_
      refine hw_seq (fun Nh17 h17 => ?_)
      refine hw_seq (fun Nh18 h18 => ?_)
      refine hw_region ?_
      refine hq_ 30 (hop_move rfl) rfl rfl pre0 rfl rfl ?_
      refine hq_ 31 (hop_move rfl) rfl rfl pre0 rfl rfl ?_
      refine hq_ 32 (hop_ix_strl (by kernel_rfl) rfl rfl (by first | exact Nat.le_of_ble_eq_true rfl | omega | (dsimp only; omega) | (simp <;> omega)) (by first | exact Nat.le_of_ble_eq_true rfl | omega | (dsimp only; omega) | (simp <;> omega))) rfl rfl pre0 rfl rfl ?_
      refine hq_ 33 (hop_call0 (xs := [_]) (refPlain_h (l.getD p 0)) ⟨rfl, trivial⟩ ⟨(Fz.eq rfl), trivial⟩) rfl rfl pre0 rfl rfl ?_
      refine hq_ 34 (hop_not rfl) rfl rfl pre0 rfl rfl ?_
      refine hseq_nil ?_
      refine h18 _ ?_
      refine hw_cond _ rfl (fun hc3 => ?_) (fun hc3 => ?_)
      · have hr3 := hc3; (try simp only [decide_eq_true_eq, decide_eq_false_iff_not, Bool.and_eq_true, Bool.or_eq_true, Bool.not_eq_true', Bool.or_eq_false_iff, beq_iff_eq, bne_iff_ne, ne_eq, beq_eq_false_iff_ne, bne_eq_false_iff_eq, Bool.not_eq_true, Bool.not_eq_false, Bool.not_eq_false', Int.toNat_natCast, Int.reduceToNat] at hc3)
        refine hw_seq (fun Nh19 h19 => ?_)
        refine hw_region ?_
        refine hq_ 2 (hop_assign rfl) rfl rfl pre0 rfl rfl ?_
        refine hq_ 3 (hop_assign rfl) rfl rfl pre0 rfl rfl ?_
        refine hseq_nil ?_
        refine h19 _ ?_
        refine hw_ret ?_
        refine hq_then_ret ?_
        refine hq_block_ret ?_
        refine hq_then_ret ?_
        refine hq_then_ret ?_
        refine hq_block_ret ?_
        refine hq_then_ret ?_
        refine hq_ret2 rfl (rval_tmp rfl) (rval_tmp rfl) [] rfl pre0 ?_
        have e : wordsV l = none := split_none_end hne hL (by rw [List.append_assoc]; exact wordOk_bad _ _ _ (by simpa using hc3)); rw [e]; exact fz_t2 (.nil 0 1 _ (by decide) none) (.imm _)
      · have hr3 := hc3; (try simp only [decide_eq_true_eq, decide_eq_false_iff_not, Bool.and_eq_true, Bool.or_eq_true, Bool.not_eq_true', Bool.or_eq_false_iff, beq_iff_eq, bne_iff_ne, ne_eq, beq_eq_false_iff_ne, bne_eq_false_iff_eq, Bool.not_eq_true, Bool.not_eq_false, Bool.not_eq_false', Int.toNat_natCast, Int.reduceToNat] at hc3)
        refine hw_skip ?_
        refine h17 _ ?_
        refine hw_region ?_
        refine hq_ 35 (hop_move rfl) rfl rfl pre0 rfl rfl ?_
        refine hq_ 36 (hop_move rfl) rfl rfl pre0 rfl rfl ?_
        refine hq_ 37 (hop_move rfl) rfl rfl pre0 rfl rfl ?_
        refine hq_ 38 (hop_move rfl) rfl rfl pre0 rfl rfl ?_
        first
        | refine hq_ 39 (hop_addi rfl rfl rfl (by first | exact Nat.le_of_ble_eq_true rfl | omega | (dsimp only; omega) | (simp <;> omega)) (by first | exact Nat.le_of_ble_eq_true rfl | omega | (dsimp only; omega) | (simp <;> omega))) rfl rfl pre0 rfl rfl ?_
        | refine hq_ 39 (hop_add rfl rfl) rfl rfl pre0 rfl rfl ?_
        refine hq_ 40 (hop_cut_strl (by kernel_rfl) rfl (.inr ⟨_, _, rfl, rfl⟩) (.inr ⟨_, _, rfl, rfl⟩) (by first | exact Nat.le_of_ble_eq_true rfl | omega | (dsimp only; omega) | (simp <;> omega)) (by first | exact Nat.le_of_ble_eq_true rfl | omega | (dsimp only; omega) | (simp <;> omega)) (by first | exact Nat.le_of_ble_eq_true rfl | omega | (dsimp only; omega) | (simp <;> omega))) rfl rfl pre0 rfl rfl ?_
        refine hq_ 41 (hop_catl rfl rfl (by first | exact Nat.le_of_ble_eq_true rfl | omega | (dsimp only; omega) | (simp <;> omega))) rfl rfl pre0 rfl rfl ?_
        refine hq_ 5 (hop_assign rfl) rfl rfl pre0 rfl rfl ?_
        refine hseq_nil ?_
        refine hq_block ?_
        refine h9 _ ?_
        refine hw_region ?_
        refine hq_ 11 (hop_move rfl) rfl rfl pre0 rfl rfl ?_
        first
        | refine hq_ 12 (hop_addi rfl rfl rfl (by first | exact Nat.le_of_ble_eq_true rfl | omega | (dsimp only; omega) | (simp <;> omega)) (by first | exact Nat.le_of_ble_eq_true rfl | omega | (dsimp only; omega) | (simp <;> omega))) rfl rfl pre0 rfl rfl ?_
        | refine hq_ 12 (hop_add rfl rfl) rfl rfl pre0 rfl rfl ?_
        refine hq_ 6 (hop_assign rfl) rfl rfl pre0 rfl rfl ?_
        refine hseq_nil ?_
        exact hL6 ((p + 1, out, w ++ [l.getD p 0], n, g)) _ _ (by (try dsimp only); exact ⟨hL, hn, by omega, by simp; omega, hok, by rw [List.all_append, hpl]; simp; simpa using hc3, fun h => absurd h (by simp)⟩) (by (try dsimp only); omega) (hsub_of rfl (Nat.le_refl _) (TmSub.cons rfl (Sb.refl _) (TmSub.cons rfl (sb_str (by show w ++ List.take (((p : Int) + 1).toNat - p) (List.drop p l) = _; rw [hd, show ((p : Int) + 1).toNat - p = 1 from by omega]; rfl)) (TmSub.cons rfl (Sb.refl _) (TmSub.cons rfl (Sb.refl _) TmSub.nil)))) (HpSub.cons rfl (OSub.refl _) HpSub.nil))
  · have hr0 := hc0; (try simp only [decide_eq_true_eq, decide_eq_false_iff_not, Bool.and_eq_true, Bool.or_eq_true, Bool.not_eq_true', Bool.or_eq_false_iff, beq_iff_eq, bne_iff_ne, ne_eq, beq_eq_false_iff_ne, bne_eq_false_iff_eq, Bool.not_eq_true, Bool.not_eq_false, Bool.not_eq_false', Int.toNat_natCast, Int.reduceToNat] at hc0)
    refine hw_exit ?_
    refine hq_then_exit ?_
    refine hq_then_exit ?_
    refine hq_block_here ?_
    refine h4 _ ?_
    refine hw_seq (fun Nh20 h20 => ?_)
    refine hw_seq (fun Nh21 h21 => ?_)
    refine hw_region ?_
    refine hq_ 42 (hop_move rfl) rfl rfl pre0 rfl rfl ?_
    refine hq_ 43 (hop_seq_l rfl rfl) rfl rfl pre0 rfl rfl ?_
    refine hseq_nil ?_
    refine h21 _ ?_
    refine hw_cond _ rfl (fun hc4 => ?_) (fun hc4 => ?_)
    · have hr4 := hc4; (try simp only [decide_eq_true_eq, decide_eq_false_iff_not, Bool.and_eq_true, Bool.or_eq_true, Bool.not_eq_true', Bool.or_eq_false_iff, beq_iff_eq, bne_iff_ne, ne_eq, beq_eq_false_iff_ne, bne_eq_false_iff_eq, Bool.not_eq_true, Bool.not_eq_false, Bool.not_eq_false', Int.toNat_natCast, Int.reduceToNat] at hc4)
      refine hw_seq (fun Nh22 h22 => ?_)
      refine hw_region ?_
      refine hq_ 2 (hop_assign rfl) rfl rfl pre0 rfl rfl ?_
      refine hq_ 3 (hop_assign rfl) rfl rfl pre0 rfl rfl ?_
      refine hseq_nil ?_
      refine h22 _ ?_
      refine hw_ret ?_
      refine hq_then_ret ?_
      refine hq_ret2 rfl (rval_tmp rfl) (rval_tmp rfl) [] rfl pre0 ?_
      obtain rfl : l = [] := (by simpa using hc4); exact fz_t2 (.nil 0 1 _ (by decide) none) (.imm _)
    · have hr4 := hc4; (try simp only [decide_eq_true_eq, decide_eq_false_iff_not, Bool.and_eq_true, Bool.or_eq_true, Bool.not_eq_true', Bool.or_eq_false_iff, beq_iff_eq, bne_iff_ne, ne_eq, beq_eq_false_iff_ne, bne_eq_false_iff_eq, Bool.not_eq_true, Bool.not_eq_false, Bool.not_eq_false', Int.toNat_natCast, Int.reduceToNat] at hc4)
      refine hw_skip ?_
      refine h20 _ ?_
      refine hw_seq (fun Nh23 h23 => ?_)
      have hne : l ≠ [] := (by simpa using hc4); obtain rfl : p = l.length := (by omega); have hw1 : ¬ w = [] := (fun h => by rcases hw0 h with h | h; exact hne (List.eq_nil_of_length_eq_zero h); omega); rw [List.drop_length, onto_end] at hL
      refine hw_region ?_
      refine hq_ 44 (hop_move rfl) rfl rfl pre0 rfl rfl ?_
      refine hq_ 45 (hop_move rfl) rfl rfl pre0 rfl rfl ?_
      refine hm_1 46 (hop_buildSlice (id := 46) (hs := [_]) ei_47 (by first | exact Nat.le_of_ble_eq_true rfl | omega | (dsimp only; omega) | (simp <;> omega)) rfl (by first | exact Nat.le_of_ble_eq_true rfl | omega | (dsimp only; omega) | (simp <;> omega)) ⟨rfl, rfl, rfl, rfl, trivial⟩) rfl rfl pre0 rfl rfl (c' := c + 1) rfl ?_
      first
      | refine hm_1 47 (hol_append ei_47 (by first | exact Nat.le_of_ble_eq_true rfl | omega | (dsimp only; omega) | (simp <;> omega)) rfl (by first | exact Nat.le_of_ble_eq_true rfl | omega | (dsimp only; omega) | (simp <;> omega)) (by first | exact Nat.le_of_ble_eq_true rfl | omega | (dsimp only; omega) | (simp <;> omega)) (srl_os0 rfl (by first | exact Nat.le_of_ble_eq_true rfl | omega | (dsimp only; omega) | (simp <;> omega))) (by first | exact Nat.le_of_ble_eq_true rfl | omega | (dsimp only; omega) | (simp <;> omega)) rfl) rfl rfl (preC rfl (pre1 rfl)) rfl rfl (c' := c + 2) rfl ?_
      | refine hm_1 47 (hol_append ei_47 (by first | exact Nat.le_of_ble_eq_true rfl | omega | (dsimp only; omega) | (simp <;> omega)) rfl (by first | exact Nat.le_of_ble_eq_true rfl | omega | (dsimp only; omega) | (simp <;> omega)) (by first | exact Nat.le_of_ble_eq_true rfl | omega | (dsimp only; omega) | (simp <;> omega)) (srl_os rfl (by first | exact Nat.le_of_ble_eq_true rfl | omega | (dsimp only; omega) | (simp <;> omega))) (by first | exact Nat.le_of_ble_eq_true rfl | omega | (dsimp only; omega) | (simp <;> omega)) rfl) rfl rfl (preC rfl (pre1 rfl)) rfl rfl (c' := c + 2) rfl ?_
      | refine hm_1 47 (hol_append ei_47 (by first | exact Nat.le_of_ble_eq_true rfl | omega | (dsimp only; omega) | (simp <;> omega)) rfl (by first | exact Nat.le_of_ble_eq_true rfl | omega | (dsimp only; omega) | (simp <;> omega)) (by first | exact Nat.le_of_ble_eq_true rfl | omega | (dsimp only; omega) | (simp <;> omega)) (src_sl rfl) (by first | exact Nat.le_of_ble_eq_true rfl | omega | (dsimp only; omega) | (simp <;> omega)) rfl) rfl rfl (preC rfl pre0) rfl rfl (c' := c + 2) rfl ?_
      | refine hm_1 47 (hol_append ei_47 (by first | exact Nat.le_of_ble_eq_true rfl | omega | (dsimp only; omega) | (simp <;> omega)) rfl (by first | exact Nat.le_of_ble_eq_true rfl | omega | (dsimp only; omega) | (simp <;> omega)) (by first | exact Nat.le_of_ble_eq_true rfl | omega | (dsimp only; omega) | (simp <;> omega)) (src_nil 1 (fun _ _ => default) rfl) (by first | exact Nat.le_of_ble_eq_true rfl | omega | (dsimp only; omega) | (simp <;> omega)) rfl) rfl rfl (preC rfl pre0) rfl rfl (c' := c + 2) rfl ?_
      refine hq_ 2 (hop_assign rfl) rfl rfl pre0 rfl rfl ?_
      refine hq_ 3 (hop_assign rfl) rfl rfl pre0 rfl rfl ?_
      refine hseq_nil ?_
      refine h23 _ ?_
      refine hw_ret ?_
      refine hq_ret2 rfl (rval_tmp rfl) (rval_tmp rfl) [(4, _)] rfl (preC rfl pre0) ?_
      have e : wordsV l = some (out ++ [w]) := (by rw [words_good hne, hL]; intro x h; rw [hL] at h; rcases List.mem_append.1 h with h | h; exact hok x h; simp at h; subst h; unfold wordOk; rw [hpl]; cases x <;> simp_all); rw [e]; exact fz_t2 (fz_row (l := out ++ [w]) (enc := fun w _ => strV w) (d := []) (List.mem_cons_self ..) rfl (by simp [hn]) (Nat.le_refl _) (fun i j hi hj => fz_cat (l := out) (k := [w]) (enc := fun w _ => strV w) (d := []) hn (fun i j _ _ => .imm _) (fun i j hi hj => by match i, hi with | 0, _ => exact .imm _) i j hi hj)) (.imm _)
end Go.Proofs.YtijpdbjcmnpobaaDoor
