/-
  Words, in the reader's words: numbers, bytes as a word's piece; the law on numbers.
-/
import Derived.Test.YtijpdbjcmnpobaaDoorHbu
import Derived.Test.YtijpdbjcmnpobaaDoorHstr
import Derived.Test.YtijpdbjcmnpobaaDoorHf
import Derived.Test.YtijpdbjcmnpobaaDoorNum2
import Derived.Test.YtijpdbjcmnpobaaDoorHide
import Derived.Lib.ItoaLen
namespace Go.Proofs.YtijpdbjcmnpobaaDoor
set_option linter.unusedSimpArgs false
set_option linter.unusedVariables false
set_option maxRecDepth 100000
open Go.RowKit
open Go.Lib hiding intOf

theorem libAt {w : World} (h : LibW w) : LibAt w := ⟨h.tab (by unfold hasLib; kernel_rfl), h.syn (by unfold hasLib; kernel_rfl), h.rng (by unfold hasLib; kernel_rfl)⟩
theorem pure_imm2 {w w' : World} {F : Addr → Prop} {u v : Value} (hF : ∀ a, F a → a.spot = none ∧ (w.cell? a).isSome = true) (hb : Below w.heap.size w w') : PurePost w F (t2 (.imm u) (.imm v)) (.returned (.tuple #[u, v])) w' :=
  ⟨hb, _, F, rfl, fun _ h => h, fun _ h => .inl h, fun a ha => ⟨(hF a ha).1, by rw [World.cell?_of_block (hb.block _ (lt_of_cell (hF a ha).2))]; exact (hF a ha).2⟩,
    .tup _ 2 _ (fun i => match i with | 0 => u | _ => v) rfl (fun i hi => by match i, hi with | 0, _ => rfl | 1, _ => rfl) (fun i hi => by match i, hi with | 0, _ => exact .imm _ | 1, _ => exact .imm _)⟩
@[reducible] def numH (o : Option Int) : HV := t2 (intV (o.getD 0)) (boolV o.isSome)
theorem num_h (l : List UInt8) (hl : l.length ≤ 281474976710656) : HPure Tryd.prog 13 [strV l] (numH (numV l)) := by
  refine ⟨⟨_, _, Tryd.func13, rfl, by kernel_rfl⟩, fun w F vs hF hr hw => ?_⟩
  obtain ⟨v, rfl, hv⟩ := rep1 hr
  rw [hv.imm_inv]
  refine (num_w ⟨l.toArray⟩ (by rw [ba_size]; exact hl) w (libAt hw)).mono ?_
  rintro e w' ⟨rfl, hb⟩
  have e1 : numT (numV (⟨l.toArray⟩ : ByteArray).data.toList) = .tuple #[.int .i64 ((numV l).getD 0), .bool (numV l).isSome] := by
    show numT (numV l) = _
    cases numV l <;> rfl
  rw [e1]
  exact pure_imm2 hF hb
theorem refNum_h (l : List UInt8) (hl : l.length ≤ 200) : HPure Tryd.prog 14 [strV l] (numH (numV l)) := by
  refine ⟨⟨_, _, Tryd.func14, rfl, by kernel_rfl⟩, fun w F vs hF hr hw => ?_⟩
  obtain ⟨v, rfl, hv⟩ := rep1 hr
  rw [hv.imm_inv]
  refine (refNum_w ⟨l.toArray⟩ w (by rw [ba_size]; exact hl)).mono ?_
  rintro e w' ⟨rfl, hb⟩
  have e1 : numT (refV (⟨l.toArray⟩ : ByteArray).data.toList) = .tuple #[.int .i64 ((numV l).getD 0), .bool (numV l).isSome] := by
    show numT (refV l) = _
    rw [refV_eq]
    cases numV l <;> rfl
  rw [e1]
  exact pure_imm2 hF hb
theorem show_h (n : Int) (h0 : -9223372036854775808 ≤ n) (h1 : n ≤ 9223372036854775807) : HPure Tryd.prog 15 [intV n] (strV (itoa n)) := by
  refine ⟨⟨_, _, Tryd.func15, rfl, by kernel_rfl⟩, fun w F vs hF hr hw => ?_⟩
  obtain ⟨v, rfl, hv⟩ := rep1 hr
  rw [hv.imm_inv]
  refine (show_w n h0 h1 w (libAt hw)).mono ?_
  rintro e w' ⟨rfl, hb⟩
  exact pure_imm hF hb
theorem refShow_h (n : Int) (h0 : -9223372036854775808 ≤ n) (h1 : n ≤ 9223372036854775807) : HPure Tryd.prog 16 [intV n] (strV (itoa n)) := by
  refine ⟨⟨_, _, Tryd.func16, rfl, by kernel_rfl⟩, fun w F vs hF hr hw => ?_⟩
  obtain ⟨v, rfl, hv⟩ := rep1 hr
  rw [hv.imm_inv]
  refine (refShow_w n h0 h1 w).mono ?_
  rintro e w' ⟨rfl, hb⟩
  exact pure_imm hF hb
theorem byteF_imm (c : UInt8) (j : Nat) (h : j < 1) : u8V c = .imm ((byteC c).getD j undef) := by
  match j, h with | 0, _ => rfl
theorem hide_h (l : List UInt8) (hl : l.length ≤ 2000) : HPure Tryd.prog 17 [bytesV l] (strV (hideL l)) := by
  refine ⟨⟨_, _, Tryd.func17, rfl, by kernel_rfl⟩, fun w F vs hF hr hw => ?_⟩
  obtain ⟨v, rfl, hv⟩ := rep1 hr
  obtain ⟨A, c, rfl, h1, h2, hs⟩ := sl_of 1 byteC byteC_length (fun c _ => u8V c) byteF_imm 0 l hv
  refine (hide_w w A l.length c l rfl hs hl).mono ?_
  rintro e w' ⟨rfl, hb⟩
  exact pure_imm hF hb

theorem live_num : numV [45, 48] = none := by decide +kernel
theorem live_hide : hideL [97, 32, 92] = [97, 92, 115, 92, 92] := by decide +kernel
theorem live_show : itoa (-5) = [45, 53] := by
  unfold itoa
  rw [if_pos (by decide), dec_small _ (by decide)]
  rfl
theorem live_h : HPure Tryd.prog 12 [] (boolV true) := by
  refine hpure_of Tryd.func12 rfl (by kernel_rfl) _ _ _ rfl 19 rfl rfl (fun w F => ?_)
  refine hw_seq (fun Nh1 h1 => ?_)
  refine hw_region ?_
  refine hq_ 0 (hop_assign rfl) rfl rfl pre0 rfl rfl ?_
  refine hseq_nil ?_
  refine h1 _ ?_
  refine hw_seq (fun Nh2 h2 => ?_)
  refine hw_region ?_
  refine hq_ 4 (hop_call0 (xs := [_]) (num_h [45, 48] (by decide)) ⟨rfl, trivial⟩ ⟨(Fz.eq rfl), trivial⟩) rfl rfl pre0 rfl rfl ?_
  refine hq_ 3 (hop_move rfl) rfl rfl pre0 rfl rfl ?_
  refine hq_ 5 (hop_extract rfl rfl) rfl rfl pre0 rfl rfl ?_
  refine hq_ 6 (hop_extract rfl rfl) rfl rfl pre0 rfl rfl ?_
  refine hq_ 1 (hop_assign rfl) rfl rfl pre0 rfl rfl ?_
  refine hq_ 2 (hop_assign rfl) rfl rfl pre0 rfl rfl ?_
  refine hseq_nil ?_
  refine h2 _ ?_
  refine hw_seq (fun Nh3 h3 => ?_)
  refine hw_region ?_
  refine hm_1 7 (hop_buildSlice (id := 7) (hs := [_, _, _]) ei_27 (by first | exact Nat.le_of_ble_eq_true rfl | omega | (dsimp only; omega) | (simp <;> omega)) rfl (by first | exact Nat.le_of_ble_eq_true rfl | omega | (dsimp only; omega) | (simp <;> omega)) ⟨rfl, rfl, rfl, rfl, ⟨rfl, rfl, rfl, rfl, ⟨rfl, rfl, rfl, rfl, trivial⟩⟩⟩) rfl rfl pre0 rfl rfl (c' := 1) rfl ?_
  refine hm_1 8 (hop_conv_mark (e := 5) ([97, 32, 92]) rfl (by kernel_rfl) (by kernel_rfl) rfl (by first | exact Nat.le_of_ble_eq_true rfl | omega | (dsimp only; omega) | (simp <;> omega)) (by first | rfl | simp) ((fun i hi => bsf_u8 ([97, 32, 92]) i hi))) rfl rfl (pre1 rfl) rfl rfl (c' := 2) rfl ?_
  refine hq_ 9 (hop_call0 (xs := [_]) (hide_h [97, 32, 92] (by decide)) ⟨rfl, trivial⟩ ⟨(Fz.eq rfl), trivial⟩) rfl rfl pre0 rfl rfl ?_
  refine hq_ 10 (hop_seq_l rfl rfl) rfl rfl pre0 rfl rfl ?_
  refine hq_ 11 (hop_move rfl) rfl rfl pre0 rfl rfl ?_
  first
  | refine hq_g 12 4 11 true _ (fun hb => hop_move rfl) rfl rfl rfl rfl pre0 rfl rfl rfl ?_
  | refine hq_g2 12 4 11 _ _ true _ (fun hb => hop_move rfl) rfl rfl rfl rfl pre0 rfl rfl rfl ?_
  first
  | refine hq_g 13 4 11 true _ (fun hb => hop_not rfl) rfl rfl rfl rfl pre0 rfl rfl rfl ?_
  | refine hq_g2 13 4 11 _ _ true _ (fun hb => hop_not rfl) rfl rfl rfl rfl pre0 rfl rfl rfl ?_
  first
  | refine hq_p 14 (hstep_and _ _ rfl rfl rfl) rfl rfl rfl ?_
  | refine hq_p 14 (hstep_or _ _ rfl rfl rfl) rfl rfl rfl ?_
  | refine hq_p 14 (hstep_ite _ _ _ rfl rfl rfl) rfl rfl rfl ?_
  | refine hq_p 14 (hstep_pick _ _ _ _ rfl rfl rfl (fun _ => .refl _) (fun _ => .refl _)) rfl rfl rfl ?_
  refine hq_ 15 (hop_move rfl) rfl rfl pre0 rfl rfl ?_
  first
  | refine hq_g 16 8 15 true _ (fun hb => hop_call0 (xs := [_]) (show_h (-5) (by decide) (by decide)) ⟨rfl, trivial⟩ ⟨(Fz.eq rfl), trivial⟩) rfl rfl rfl rfl pre0 rfl rfl rfl ?_
  | refine hq_g2 16 8 15 _ _ true _ (fun hb => hop_call0 (xs := [_]) (show_h (-5) (by decide) (by decide)) ⟨rfl, trivial⟩ ⟨(Fz.eq rfl), trivial⟩) rfl rfl rfl rfl pre0 rfl rfl rfl ?_
  first
  | refine hq_g 17 8 15 true _ (fun hb => hop_seq_l rfl rfl) rfl rfl rfl rfl pre0 rfl rfl rfl ?_
  | refine hq_g2 17 8 15 _ _ true _ (fun hb => hop_seq_l rfl rfl) rfl rfl rfl rfl pre0 rfl rfl rfl ?_
  first
  | refine hq_p 18 (hstep_and _ _ rfl rfl rfl) rfl rfl rfl ?_
  | refine hq_p 18 (hstep_or _ _ rfl rfl rfl) rfl rfl rfl ?_
  | refine hq_p 18 (hstep_ite _ _ _ rfl rfl rfl) rfl rfl rfl ?_
  | refine hq_p 18 (hstep_pick _ _ _ _ rfl rfl rfl (fun _ => .refl _) (fun _ => .refl _)) rfl rfl rfl ?_
  refine hq_ 0 (hop_assign rfl) rfl rfl pre0 rfl rfl ?_
  refine hseq_nilU (by rfl) (by simp only [dropUn, slots]; exact rfl) ?_
  refine h3 _ ?_
  refine hw_ret ?_
  refine hq_ret1 rfl (rval_tmp rfl) [] rfl pre0 ?_
  exact fz_bool (by rw [live_num, live_hide, live_show]; rfl)
theorem numbers_h (n : Int) (l : List UInt8) (b0 : -9223372036854775808 ≤ n) (b1 : n ≤ 9223372036854775807) : HPure Tryd.prog 3 [intV n, strV l] (boolV true) := by
  have hb := numV_itoa n b0 b1
  have hnl : (itoa n).length ≤ 281474976710656 := by
    have := itoa_length_le n b0 b1
    omega
  refine hpure_of Tryd.func3 rfl (by kernel_rfl) _ _ _ rfl 58 rfl rfl (fun w F => ?_)
  refine hw_seq (fun Nh1 h1 => ?_)
  refine hw_region ?_
  refine hq_ 4 (hop_assign rfl) rfl rfl pre0 rfl rfl ?_
  refine hseq_nil ?_
  refine h1 _ ?_
  refine hw_seq (fun Nh2 h2 => ?_)
  refine hw_seq (fun Nh3 h3 => ?_)
  refine hw_region ?_
  refine hq_ 12 (hop_move rfl) rfl rfl pre0 rfl rfl ?_
  refine hq_ 13 (hop_len_strl (T := 9) rfl (by kernel_rfl) rfl) rfl rfl pre0 rfl rfl ?_
  refine hq_ 14 (hop_gtr rfl rfl) rfl rfl pre0 rfl rfl ?_
  refine hseq_nil ?_
  refine h3 _ ?_
  refine hw_cond _ rfl (fun hc0 => ?_) (fun hc0 => ?_)
  · have hr0 := hc0; (try simp only [decide_eq_true_eq, decide_eq_false_iff_not, Bool.and_eq_true, Bool.or_eq_true, Bool.not_eq_true', Bool.or_eq_false_iff, beq_iff_eq, bne_iff_ne, ne_eq, beq_eq_false_iff_ne, bne_eq_false_iff_eq, Bool.not_eq_true, Bool.not_eq_false, Bool.not_eq_false', Int.toNat_natCast, Int.reduceToNat] at hc0)
    refine hw_seq (fun Nh4 h4 => ?_)
    refine hw_region ?_
    refine hq_ 15 (hop_call0 (xs := []) (live_h) trivial trivial) rfl rfl pre0 rfl rfl ?_
    refine hq_ 4 (hop_assign rfl) rfl rfl pre0 rfl rfl ?_
    refine hseq_nil ?_
    refine h4 _ ?_
    refine hw_ret ?_
    refine hq_then_ret ?_
    refine hq_ret1 rfl (rval_tmp rfl) [] rfl pre0 ?_
    exact Frz.fz
  · have hr0 := hc0; (try simp only [decide_eq_true_eq, decide_eq_false_iff_not, Bool.and_eq_true, Bool.or_eq_true, Bool.not_eq_true', Bool.or_eq_false_iff, beq_iff_eq, bne_iff_ne, ne_eq, beq_eq_false_iff_ne, bne_eq_false_iff_eq, Bool.not_eq_true, Bool.not_eq_false, Bool.not_eq_false', Int.toNat_natCast, Int.reduceToNat] at hc0)
    refine hw_skip ?_
    refine h2 _ ?_
    refine hw_seq (fun Nh5 h5 => ?_)
    refine hw_region ?_
    refine hq_ 17 (hop_move rfl) rfl rfl pre0 rfl rfl ?_
    refine hq_ 18 (hop_call0 (xs := [_]) (num_h l (by omega)) ⟨rfl, trivial⟩ ⟨(Fz.eq rfl), trivial⟩) rfl rfl pre0 rfl rfl ?_
    refine hq_ 16 (hop_move rfl) rfl rfl pre0 rfl rfl ?_
    refine hq_ 19 (hop_extract rfl rfl) rfl rfl pre0 rfl rfl ?_
    refine hq_ 20 (hop_extract rfl rfl) rfl rfl pre0 rfl rfl ?_
    refine hq_ 5 (hop_assign rfl) rfl rfl pre0 rfl rfl ?_
    refine hq_ 6 (hop_assign rfl) rfl rfl pre0 rfl rfl ?_
    refine hseq_nil ?_
    refine h5 _ ?_
    refine hw_seq (fun Nh6 h6 => ?_)
    refine hw_region ?_
    refine hq_ 22 (hop_move rfl) rfl rfl pre0 rfl rfl ?_
    refine hq_ 23 (hop_call0 (xs := [_]) (refNum_h l (by omega)) ⟨rfl, trivial⟩ ⟨(Fz.eq rfl), trivial⟩) rfl rfl pre0 rfl rfl ?_
    refine hq_ 21 (hop_move rfl) rfl rfl pre0 rfl rfl ?_
    refine hq_ 24 (hop_extract rfl rfl) rfl rfl pre0 rfl rfl ?_
    refine hq_ 25 (hop_extract rfl rfl) rfl rfl pre0 rfl rfl ?_
    refine hq_ 7 (hop_assign rfl) rfl rfl pre0 rfl rfl ?_
    refine hq_ 8 (hop_assign rfl) rfl rfl pre0 rfl rfl ?_
    refine hseq_nil ?_
    refine h6 _ ?_
    refine hw_seq (fun Nh7 h7 => ?_)
    refine hw_region ?_
    refine hq_ 26 (hop_move rfl) rfl rfl pre0 rfl rfl ?_
    refine hq_ 27 (hop_call0 (xs := [_]) (show_h n b0 b1) ⟨rfl, trivial⟩ ⟨(Fz.eq rfl), trivial⟩) rfl rfl pre0 rfl rfl ?_
    refine hq_ 9 (hop_assign rfl) rfl rfl pre0 rfl rfl ?_
    refine hseq_nil ?_
    refine h7 _ ?_
    refine hw_seq (fun Nh8 h8 => ?_)
    refine hw_region ?_
    refine hq_ 29 (hop_move rfl) rfl rfl pre0 rfl rfl ?_
    refine hq_ 30 (hop_call0 (xs := [_]) (num_h (itoa n) hnl) ⟨rfl, trivial⟩ ⟨(Fz.eq rfl), trivial⟩) rfl rfl pre0 rfl rfl ?_
    refine hq_ 28 (hop_move rfl) rfl rfl pre0 rfl rfl ?_
    refine hq_ 31 (hop_extract rfl rfl) rfl rfl pre0 rfl rfl ?_
    refine hq_ 32 (hop_extract rfl rfl) rfl rfl pre0 rfl rfl ?_
    refine hq_ 10 (hop_assign rfl) rfl rfl pre0 rfl rfl ?_
    refine hq_ 11 (hop_assign rfl) rfl rfl pre0 rfl rfl ?_
    refine hseq_nil ?_
    refine h8 _ ?_
    refine hw_seq (fun Nh9 h9 => ?_)
    refine hw_region ?_
    refine hq_ 33 (hop_move rfl) rfl rfl pre0 rfl rfl ?_
    refine hq_ 34 (hop_move rfl) rfl rfl pre0 rfl rfl ?_
    refine hq_ 35 (hop_eql rfl rfl) rfl rfl pre0 rfl rfl ?_
    refine hq_ 36 (hop_move rfl) rfl rfl pre0 rfl rfl ?_
    first
    | refine hq_g 37 3 36 true _ (fun hb => hop_move rfl) rfl rfl rfl rfl pre0 rfl rfl rfl ?_
    | refine hq_g2 37 3 36 _ _ true _ (fun hb => hop_move rfl) rfl rfl rfl rfl pre0 rfl rfl rfl ?_
    first
    | refine hq_g 38 3 36 true _ (fun hb => hop_move rfl) rfl rfl rfl rfl pre0 rfl rfl rfl ?_
    | refine hq_g2 38 3 36 _ _ true _ (fun hb => hop_move rfl) rfl rfl rfl rfl pre0 rfl rfl rfl ?_
    first
    | refine hq_g 39 3 36 true _ (fun hb => hop_beq (fun w => by kernel_rfl) rfl rfl) rfl rfl rfl rfl pre0 rfl rfl rfl ?_
    | refine hq_g2 39 3 36 _ _ true _ (fun hb => hop_beq (fun w => by kernel_rfl) rfl rfl) rfl rfl rfl rfl pre0 rfl rfl rfl ?_
    first
    | refine hq_p 40 (hstep_and _ _ rfl rfl rfl) rfl rfl rfl ?_
    | refine hq_p 40 (hstep_or _ _ rfl rfl rfl) rfl rfl rfl ?_
    | refine hq_p 40 (hstep_ite _ _ _ rfl rfl rfl) rfl rfl rfl ?_
    | refine hq_p 40 (hstep_pick _ _ _ _ rfl rfl rfl (fun _ => .refl _) (fun _ => .refl _)) rfl rfl rfl ?_
    refine hq_ 41 (hop_move rfl) rfl rfl pre0 rfl rfl ?_
    first
    | refine hq_g 42 8 41 true _ (fun hb => hop_move rfl) rfl rfl rfl rfl pre0 rfl rfl rfl ?_
    | refine hq_g2 42 8 41 _ _ true _ (fun hb => hop_move rfl) rfl rfl rfl rfl pre0 rfl rfl rfl ?_
    first
    | refine hq_g 43 8 41 true _ (fun hb => hop_move rfl) rfl rfl rfl rfl pre0 rfl rfl rfl ?_
    | refine hq_g2 43 8 41 _ _ true _ (fun hb => hop_move rfl) rfl rfl rfl rfl pre0 rfl rfl rfl ?_
    first
    | refine hq_g 44 8 41 true _ (fun hb => hop_call0 (xs := [_]) (refShow_h n b0 b1) ⟨rfl, trivial⟩ ⟨(Fz.eq rfl), trivial⟩) rfl rfl rfl rfl pre0 rfl rfl rfl ?_
    | refine hq_g2 44 8 41 _ _ true _ (fun hb => hop_call0 (xs := [_]) (refShow_h n b0 b1) ⟨rfl, trivial⟩ ⟨(Fz.eq rfl), trivial⟩) rfl rfl rfl rfl pre0 rfl rfl rfl ?_
    first
    | refine hq_g 45 8 41 true _ (fun hb => hop_seq_l rfl rfl) rfl rfl rfl rfl pre0 rfl rfl rfl ?_
    | refine hq_g2 45 8 41 _ _ true _ (fun hb => hop_seq_l rfl rfl) rfl rfl rfl rfl pre0 rfl rfl rfl ?_
    first
    | refine hq_p 46 (hstep_and _ _ rfl rfl rfl) rfl rfl rfl ?_
    | refine hq_p 46 (hstep_or _ _ rfl rfl rfl) rfl rfl rfl ?_
    | refine hq_p 46 (hstep_ite _ _ _ rfl rfl rfl) rfl rfl rfl ?_
    | refine hq_p 46 (hstep_pick _ _ _ _ rfl rfl rfl (fun _ => .refl _) (fun _ => .refl _)) rfl rfl rfl ?_
    refine hq_ 47 (hop_move rfl) rfl rfl pre0 rfl rfl ?_
    first
    | refine hq_g 48 14 47 true _ (fun hb => hop_move rfl) rfl rfl rfl rfl pre0 rfl rfl rfl ?_
    | refine hq_g2 48 14 47 _ _ true _ (fun hb => hop_move rfl) rfl rfl rfl rfl pre0 rfl rfl rfl ?_
    first
    | refine hq_p 49 (hstep_and _ _ rfl rfl rfl) rfl rfl rfl ?_
    | refine hq_p 49 (hstep_or _ _ rfl rfl rfl) rfl rfl rfl ?_
    | refine hq_p 49 (hstep_ite _ _ _ rfl rfl rfl) rfl rfl rfl ?_
    | refine hq_p 49 (hstep_pick _ _ _ _ rfl rfl rfl (fun _ => .refl _) (fun _ => .refl _)) rfl rfl rfl ?_
    refine hq_ 50 (hop_move rfl) rfl rfl pre0 rfl rfl ?_
    first
    | refine hq_g 51 17 50 true _ (fun hb => hop_move rfl) rfl rfl rfl rfl pre0 rfl rfl rfl ?_
    | refine hq_g2 51 17 50 _ _ true _ (fun hb => hop_move rfl) rfl rfl rfl rfl pre0 rfl rfl rfl ?_
    first
    | refine hq_g 52 17 50 true _ (fun hb => hop_move rfl) rfl rfl rfl rfl pre0 rfl rfl rfl ?_
    | refine hq_g2 52 17 50 _ _ true _ (fun hb => hop_move rfl) rfl rfl rfl rfl pre0 rfl rfl rfl ?_
    first
    | refine hq_g 53 17 50 true _ (fun hb => hop_eql rfl rfl) rfl rfl rfl rfl pre0 rfl rfl rfl ?_
    | refine hq_g2 53 17 50 _ _ true _ (fun hb => hop_eql rfl rfl) rfl rfl rfl rfl pre0 rfl rfl rfl ?_
    first
    | refine hq_p 54 (hstep_and _ _ rfl rfl rfl) rfl rfl rfl ?_
    | refine hq_p 54 (hstep_or _ _ rfl rfl rfl) rfl rfl rfl ?_
    | refine hq_p 54 (hstep_ite _ _ _ rfl rfl rfl) rfl rfl rfl ?_
    | refine hq_p 54 (hstep_pick _ _ _ _ rfl rfl rfl (fun _ => .refl _) (fun _ => .refl _)) rfl rfl rfl ?_
    refine hq_ 55 (hop_move rfl) rfl rfl pre0 rfl rfl ?_
    first
    | refine hq_g 56 22 55 true _ (fun hb => hop_call0 (xs := []) (live_h) trivial trivial) rfl rfl rfl rfl pre0 rfl rfl rfl ?_
    | refine hq_g2 56 22 55 _ _ true _ (fun hb => hop_call0 (xs := []) (live_h) trivial trivial) rfl rfl rfl rfl pre0 rfl rfl rfl ?_
    first
    | refine hq_p 57 (hstep_and _ _ rfl rfl rfl) rfl rfl rfl ?_
    | refine hq_p 57 (hstep_or _ _ rfl rfl rfl) rfl rfl rfl ?_
    | refine hq_p 57 (hstep_ite _ _ _ rfl rfl rfl) rfl rfl rfl ?_
    | refine hq_p 57 (hstep_pick _ _ _ _ rfl rfl rfl (fun _ => .refl _) (fun _ => .refl _)) rfl rfl rfl ?_
    refine hq_ 4 (hop_assign rfl) rfl rfl pre0 rfl rfl ?_
    refine hseq_nilU (by rfl) (by simp only [dropUn, slots]; exact rfl) ?_
    refine h9 _ ?_
    refine hw_ret ?_
    refine hq_ret1 rfl (rval_tmp rfl) [] rfl pre0 ?_
    exact fz_bool (by rw [hb]; simp)
end Go.Proofs.YtijpdbjcmnpobaaDoor
