/-
  The signs of an expression, by the program.
-/
import Derived.Test.YtijpdbjcmnpobaaDoorExprS
import Derived.Test.YtijpdbjcmnpobaaDoorHd
import Derived.Test.YtijpdbjcmnpobaaDoorChecked
import Derived.ProofKit
import Derived.OpenShut
import Derived.ChangeOld
import Derived.Deep.Slices
import Derived.Test.YtijpdbjcmnpobaaDoorRows
import Derived.LaidLaws
import Derived.LaidMore
import Derived.LaidSub
import Derived.HandedShaped
import Derived.Shelf.Vars
import Derived.Stop.Joined
namespace Go.Proofs.YtijpdbjcmnpobaaDoor
set_option linter.unusedSimpArgs false
set_option linter.unusedVariables false
set_option maxRecDepth 100000
set_option maxHeartbeats 4000000
open Go.RowKit

@[reducible] def sgsO (g : Nat) (l : List Sg) : HObj := ⟨g, l.length, 5, 41, 0, sgsF l⟩
@[reducible] def shF (e : List Pt) (g2 n : Nat) : Nat → Nat → HV := fun _ j => match j with | 0 => ptsV e | _ => .os 9002 g2 0 n
@[reducible] def shO (g : Nat) (e : List Pt) (g2 n : Nat) : HObj := ⟨g, 1, 2, 114, 0, shF e g2 n⟩
@[reducible] def LayP (e : List Pt) (g : Nat) (o : List Sg) : HEnd → List (Nat × HObj) → Nat → Prop := RetP (fun (_ : Nat) _ => True) (fun _ => .tup 0 fun _ => default) (fun g' => [(9001, shO g e g' o.length), (9002, sgsO g' o)])
@[reducible] def LayC (e : List Pt) (b : Nat) (t : T) : Prop := ∀ c g g2 (out : List Sg) (bin : Bool), out.length + (wrapS bin t.sig).length ≤ 1000000 → HFun Tryd.prog 70 c [.pt 9001 g 0 0, intV ((b + t.size - 1 : Nat) : Int), boolV bin] [(9001, shO g e g2 out.length), (9002, sgsO g2 out)] (LayP e g (out ++ wrapS bin t.sig))
theorem okz_sh {kp sh : List (Nat × HObj)} {g g2 n n' : Nat} {e : List Pt} {o : HObj} (h : hget kp 9002 = some o) (hg : o.g = g2) (hn : n = n') : OKz kp sh (shO g e g2 n) (shO g e g2 n') := by
  subst hn; exact okz2 (.fz _ _ (show Fz sh (ptsV e) (ptsV e) from Frz.fz)) (.os _ _ _ _ _ h hg)
theorem okz_sgs {kp sh : List (Nat × HObj)} {g : Nat} {l l' : List Sg} (h : l = l') : OKz kp sh (sgsO g l) (sgsO g l') := by subst h; exact .of fun i j _ _ => .fz _ _ (sg_fz _ j)
theorem sb_sg5 {x : Sg} {f : Nat → HV} (h0 : Sb (f 0) (sgF x 0)) (h1 : Sb (f 1) (sgF x 1)) (h2 : Sb (f 2) (sgF x 2)) (h3 : Sb (f 3) (sgF x 3)) (h4 : Sb (f 4) (sgF x 4)) : ∀ j, j < 5 → Sb (f j) (sgF x j) := fun j hj => by
  match j, hj with
  | 0, _ => exact h0
  | 1, _ => exact h1
  | 2, _ => exact h2
  | 3, _ => exact h3
  | 4, _ => exact h4
theorem pt_at {e : List Pt} {j k : Nat} {x : Pt} (hj : j = k) (h : e.getD k default = x) : ldv true 5 (ptsF e j) 0 = ptH x := by subst hj; subst h; rfl
theorem kind_at {e : List Pt} {j k : Nat} {x : Int} (hj : j = k) (h : (e.getD k default).kind = x) : ldv false 1 (ptsF e j) 0 = intV x := by subst hj; subst h; rfl
theorem okz_sgn {kp sh : List (Nat × HObj)} {o o' : List Sg} {x : Sg} {g n ty : Nat} {f : Nat → Nat → HV} (ho : o ++ [x] = o') (hn : n = o.length := by rfl) (h0 : f 0 0 = intV x.kind := by rfl) (h1 : f 0 1 = intV x.at_ := by rfl) (h2 : f 0 2 = intV x.low := by rfl) (h3 : f 0 3 = intV x.high := by rfl) (h4 : f 0 4 = strV x.name := by rfl) : OKz kp sh ⟨g, n + 1, 5, ty, 0, cat n (sgsF o) f⟩ ⟨g, o'.length, 5, ty, 0, sgsF o'⟩ := by
  subst hn; subst ho
  refine ⟨rfl, by simp, rfl, rfl, Nat.le_refl _, fun i j hi hj => .fz _ _ ?_, fun h => absurd h (Nat.not_lt_zero _)⟩
  show Fz sh (cat o.length (sgsF o) f i j) (sgF ((o ++ [x]).getD i default) j)
  by_cases h' : i < o.length
  · rw [cat_lt h', getD_app h']; exact sg_fz _ j
  · have hi' : i = o.length := by simp only at hi; omega
    subst hi'
    rw [cat_ge (Nat.le_refl _), Nat.sub_self, getD_snoc]
    match j, hj with
    | 0, _ => rw [h0]; exact .imm _
    | 1, _ => rw [h1]; exact .imm _
    | 2, _ => rw [h2]; exact .imm _
    | 3, _ => rw [h3]; exact .imm _
    | 4, _ => rw [h4]; exact .imm _
theorem lay_name (e : List Pt) (b : Nat) (he : e.length ≤ 100000) (s : List UInt8) (hat : AtP e b (T.flat b (T.name s))) : LayC e b (T.name s) := by
  intro c g g2 out bin hb
  have htop := at_top hat
  have hwl := wrap_len bin (T.name s).sig
  have hw1 : bin = true → wrapS bin (T.name s).sig = [(⟨2, 0, 0, 0, []⟩ : Sg)] ++ (T.name s).sig ++ [(⟨3, 0, 0, 0, []⟩ : Sg)] := fun h => by rw [h]; rfl
  have hw0 : bin = false → wrapS bin (T.name s).sig = (T.name s).sig := fun h => by rw [h]; rfl
  have hlw1 : bin = true → (wrapS bin (T.name s).sig).length = (T.name s).sig.length + 2 := fun h => by rw [hw1 h, List.length_append, List.length_append]; show 1 + _ + 1 = _; omega
  have hsp := T.size_pos (T.name s)
  refine hfun_of Tryd.func70 rfl (by kernel_rfl) _ _ _ _ rfl 158 rfl rfl (fun X ok hX => ?_)
  refine hw_seq (fun Nh1 h1 => ?_)
  refine hw_seq (fun Nh2 h2 => ?_)
  refine hw_region ?_
  refine hq_ 11 (hop_move rfl) rfl rfl pre0 rfl rfl ?_
  refine hseq_nil ?_
  refine h2 _ ?_
  refine hw_cond _ rfl (fun hc0 => ?_) (fun hc0 => ?_)
  · have hr0 := hc0; (try simp only [hcs, Int.reduceToNat] at hc0)
    have ho1 : (out ++ [(⟨2, 0, 0, 0, []⟩ : Sg)]).length = out.length + 1 := (by simp); have hlw := hlw1 hc0
    refine hw_region ?_
    refine hq_ 12 (hop_move rfl) rfl rfl pre0 rfl rfl ?_
    refine hq_ 13 (hop_move rfl) rfl rfl pre0 rfl rfl ?_
    refine hq_ 14 (hop_nilcheck_pt rfl) rfl rfl pre0 rfl rfl ?_
    refine hq_ 15 (hop_fa fd_114_1 rfl) rfl rfl pre0 rfl rfl ?_
    refine hq_ 16 (hol_load ty_33 rfl (nb rfl) (nb rfl) (fun h => (by rfl))) rfl rfl (pre1 rfl) rfl rfl ?_
    refine hq_ 17 (hop_build (hs := [(0, 1, _)]) st_41 rfl rfl ⟨rfl, rfl, rfl, rfl, rfl, trivial⟩) rfl rfl pre0 rfl rfl ?_
    refine hm_1 18 (hop_buildSlice (id := 18) (hs := [_]) ei_33 (nb rfl) rfl (nb rfl) ⟨rfl, rfl, rfl, rfl, trivial⟩) rfl rfl pre0 rfl rfl (c' := c + 1) rfl ?_
    refine hm_1 19 (hol_append ei_33 (nb rfl) rfl (by omega) (nb rfl) (srl_os0 rfl (nb rfl)) (by omega) rfl) rfl rfl (preC rfl (pre1 rfl)) rfl rfl (c' := c + 2) rfl ?_
    refine hq_ 20 (hop_nilcheck_pt rfl) rfl rfl pre0 rfl rfl ?_
    refine hq_ 21 (hop_fa fd_114_1 rfl) rfl rfl pre0 rfl rfl ?_
    refine hm_s1 (hol_store ty_33 rfl rfl rfl rfl (nb rfl) (nb rfl) (nb rfl)) rfl rfl (pre1 rfl) (c' := c + 3) rfl ?_
    refine hseq_nil ?_
    refine h1 _ ?_
    refine hw_seq (fun Nh3 h3 => ?_)
    refine (hsub_ob 9001 (shO g e (c + 1) (out ++ [(⟨2, 0, 0, 0, []⟩ : Sg)]).length) rfl (by exact osub2 (.refl _) (sb_os (by first | (simp; done) | (simp; omega))))).wp ?_; refine (hsub_ob 9002 (sgsO (c + 1) (out ++ [(⟨2, 0, 0, 0, []⟩ : Sg)])) rfl (by exact (osub_snoc (enc := sgF) (d := default) (x := (⟨2, 0, 0, 0, []⟩ : Sg)) (out := out) rfl (fun i j _ _ => .refl _) (sb_sg5 (.refl _) (.refl _) (.refl _) (.refl _) (.refl _))))).wp ?_
    refine hw_region ?_
    refine hq_ 22 (hop_move rfl) rfl rfl pre0 rfl rfl ?_
    refine hq_ 23 (hop_nilcheck_pt rfl) rfl rfl pre0 rfl rfl ?_
    refine hq_ 24 (hop_fa fd_114_0 rfl) rfl rfl pre0 rfl rfl ?_
    refine hq_ 25 (hol_load ty_52 rfl (nb rfl) (nb rfl) (fun h => (by rfl))) rfl rfl (pre1 rfl) rfl rfl ?_
    refine hq_ 26 (hop_move rfl) rfl rfl pre0 rfl rfl ?_
    refine hq_ 27 (hop_ia_sl el_52 rfl rfl (by omega) (by omega) (nb rfl)) rfl rfl pre0 rfl rfl ?_
    refine hq_ 28 (HOp.val (v' := ptH (⟨1, 0, 0, s, []⟩)) (hop_load_fp ty_100 rfl (nb rfl) (fun h => (by cases h))) (pt_at (by omega) htop.1)) rfl rfl pre0 rfl rfl ?_
    refine hm_1 6 (hop_alloc (id := 6) (sz := 5) zc_100 rfl rfl (nb rfl) (nb rfl)) rfl rfl pre0 rfl rfl (c' := c + 4) rfl ?_
    refine hm_s1 (hol_storeW ty_100 rfl rfl rfl rfl) rfl rfl (pre1 rfl) (c' := c + 5) rfl ?_
    refine hseq_nil ?_
    refine h3 _ ?_
    refine hw_seq (fun Nh4 h4 => ?_)
    refine hw_seq (fun Nh5 h5 => ?_)
    refine hw_region ?_
    refine hq_ 29 (hop_fa fd_100_0 rfl) rfl rfl pre0 rfl rfl ?_
    refine hq_ 30 (hol_load ty_3 rfl (nb rfl) (nb rfl) (fun h => (by rfl))) rfl rfl (pre1 rfl) rfl rfl ?_
    refine hseq_nil ?_
    refine h5 _ ?_
    refine hw_block ?_
    refine hw_seq (fun Nh6 h6 => ?_)
    refine hw_region ?_
    refine hq_ 32 (hop_eql rfl rfl) rfl rfl pre0 rfl rfl ?_
    refine hq_ 31 (hop_assign rfl) rfl rfl pre0 rfl rfl ?_
    refine hseq_nil ?_
    refine h6 _ ?_
    refine hw_cond _ rfl (fun hc1 => ?_) (fun hc1 => ?_)
    · have hr1 := hc1; (try simp only [hcs, Int.reduceToNat] at hc1)
      refine hd_start ?_
      refine hd_q 33 (hop_move rfl) rfl rfl pre0 rfl rfl (k' := 1) rfl ?_
      refine hd_q 34 (hop_move rfl) rfl rfl pre0 rfl rfl (k' := 2) rfl ?_
      refine hd_q 35 (hop_nilcheck_pt rfl) rfl rfl pre0 rfl rfl (k' := 3) rfl ?_
      refine hd_q 36 (hop_fa fd_114_1 rfl) rfl rfl pre0 rfl rfl (k' := 4) rfl ?_
      refine hd_q 37 (hol_load ty_33 rfl (nb rfl) (nb rfl) (fun h => (by rfl))) rfl rfl (pre1 rfl) rfl rfl (k' := 5) rfl ?_
      refine hd_q 38 (hop_fa fd_100_3 rfl) rfl rfl pre0 rfl rfl (k' := 6) rfl ?_
      refine hd_q 39 (hol_load ty_9 rfl (nb rfl) (nb rfl) (fun h => (by rfl))) rfl rfl (pre1 rfl) rfl rfl (k' := 7) rfl ?_
      refine hd_q 40 (hop_build (hs := [(0, 1, _), (4, 1, _)]) st_41 rfl rfl ⟨rfl, rfl, rfl, rfl, rfl, ⟨rfl, rfl, rfl, rfl, rfl, trivial⟩⟩) rfl rfl pre0 rfl rfl (k' := 8) rfl ?_
      refine hd_1 41 (hop_buildSlice (id := 41) (hs := [_]) ei_33 (nb rfl) rfl (nb rfl) ⟨rfl, rfl, rfl, rfl, trivial⟩) rfl rfl pre0 rfl rfl (k' := 9) rfl ?_
      refine hd_1 42 (hol_append ei_33 (nb rfl) rfl (by omega) (nb rfl) (srl_os0 rfl (nb rfl)) (by omega) rfl) rfl rfl (preC rfl (pre1 rfl)) rfl rfl (k' := 10) rfl ?_
      refine hd_q 43 (hop_nilcheck_pt rfl) rfl rfl pre0 rfl rfl (k' := 11) rfl ?_
      refine hd_q 44 (hop_fa fd_114_1 rfl) rfl rfl pre0 rfl rfl (k' := 12) rfl ?_
      refine hd_s1 (hol_store ty_33 rfl rfl rfl rfl (nb rfl) (nb rfl) (nb rfl)) rfl rfl (pre1 rfl) (k' := 13) rfl ?_
      refine hd_nil (by kernel_rfl) (by kernel_rfl) (c' := c + 18) rfl ?_
      refine hq_block ?_
      refine h4 _ ?_
      refine hw_seq (fun Nh7 h7 => ?_)
      refine (hsub_ob 9001 (shO g e (c + 14) ((out ++ [(⟨2, 0, 0, 0, []⟩ : Sg)]) ++ [(⟨1, 0, 0, 0, s⟩ : Sg)]).length) rfl (by exact osub2 (.refl _) (sb_os (by first | (simp; done) | (simp; omega))))).wp ?_; refine (hsub_ob 9002 (sgsO (c + 14) ((out ++ [(⟨2, 0, 0, 0, []⟩ : Sg)]) ++ [(⟨1, 0, 0, 0, s⟩ : Sg)])) rfl (by exact (osub_snoc (enc := sgF) (d := default) (x := (⟨1, 0, 0, 0, s⟩ : Sg)) (out := (out ++ [(⟨2, 0, 0, 0, []⟩ : Sg)])) rfl (fun i j _ _ => .refl _) (sb_sg5 (.refl _) (.refl _) (.refl _) (.refl _) (.refl _))))).wp ?_
      refine hw_region ?_
      refine hq_ 147 (hop_move rfl) rfl rfl pre0 rfl rfl ?_
      refine hseq_nil ?_
      refine h7 _ ?_
      refine hw_cond _ rfl (fun hc8 => ?_) (fun hc8 => ?_)
      · have hr8 := hc8; (try simp only [hcs, Int.reduceToNat] at hc8)
        refine hw_region ?_
        refine hq_ 148 (hop_move rfl) rfl rfl pre0 rfl rfl ?_
        refine hq_ 149 (hop_move rfl) rfl rfl pre0 rfl rfl ?_
        refine hq_ 150 (hop_nilcheck_pt rfl) rfl rfl pre0 rfl rfl ?_
        refine hq_ 151 (hop_fa fd_114_1 rfl) rfl rfl pre0 rfl rfl ?_
        refine hq_ 152 (hol_load ty_33 rfl (nb rfl) (nb rfl) (fun h => (by rfl))) rfl rfl (pre1 rfl) rfl rfl ?_
        refine hq_ 153 (hop_build (hs := [(0, 1, _)]) st_41 rfl rfl ⟨rfl, rfl, rfl, rfl, rfl, trivial⟩) rfl rfl pre0 rfl rfl ?_
        refine hm_1 154 (hop_buildSlice (id := 154) (hs := [_]) ei_33 (nb rfl) rfl (nb rfl) ⟨rfl, rfl, rfl, rfl, trivial⟩) rfl rfl pre0 rfl rfl (c' := c + 19) rfl ?_
        refine hm_1 155 (hol_append ei_33 (nb rfl) rfl (by omega) (nb rfl) (srl_os0 rfl (nb rfl)) (by simp <;> omega) rfl) rfl rfl (preC rfl (pre1 rfl)) rfl rfl (c' := c + 20) rfl ?_
        refine hq_ 156 (hop_nilcheck_pt rfl) rfl rfl pre0 rfl rfl ?_
        refine hq_ 157 (hop_fa fd_114_1 rfl) rfl rfl pre0 rfl rfl ?_
        refine hm_s1 (hol_store ty_33 rfl rfl rfl rfl (nb rfl) (nb rfl) (nb rfl)) rfl rfl (pre1 rfl) (c' := c + 21) rfl ?_
        refine hseq_nil ?_
        refine hq_fall ?_
        refine hf_retR0 ok hX RetS.one rfl  [] rfl pre0 ((c + 19)) (trivial) (by rfl) (by rfl) ((by first | exact .fz _ _ (.imm _) | exact .os _ _ _ _ _ rfl rfl | exact .pt _ _ _ _ _ rfl rfl | exact .nps _ _ _ rfl rfl | (dsimp only; exact .fz _ _ Frz.fz) | exact .fz _ _ (.tup 0 _ _ (fun i hi => absurd hi (Nat.not_lt_zero _))))) ?_
        exact ⟨⟨_, rfl, okz2 (.fz _ _ (show Fz [] (ptsV e) (ptsV e) from Frz.fz)) (kz_os rfl rfl (by rw [hw1 hc8]; simp [T.sig]))⟩, ⟨⟨_, rfl, okz_sgn (x := (⟨3, 0, 0, 0, []⟩ : Sg)) (by rw [hw1 hc8]; simp [T.sig])⟩, trivial⟩⟩
      · have hr8 := hc8; (try simp only [hcs, Int.reduceToNat] at hc8)
        exfalso; rw [hc0] at hr8; cases hr8
    · have hr1 := hc1; (try simp only [hcs, Int.reduceToNat] at hc1)
      exfalso; simp at hr1
  · have hr0 := hc0; (try simp only [hcs, Int.reduceToNat] at hc0)
    have hlw := congrArg List.length (hw0 hc0)
    refine hw_skip ?_
    refine h1 _ ?_
    refine hw_seq (fun Nh8 h8 => ?_)
    refine hw_region ?_
    refine hq_ 22 (hop_move rfl) rfl rfl pre0 rfl rfl ?_
    refine hq_ 23 (hop_nilcheck_pt rfl) rfl rfl pre0 rfl rfl ?_
    refine hq_ 24 (hop_fa fd_114_0 rfl) rfl rfl pre0 rfl rfl ?_
    refine hq_ 25 (hol_load ty_52 rfl (nb rfl) (nb rfl) (fun h => (by rfl))) rfl rfl (pre1 rfl) rfl rfl ?_
    refine hq_ 26 (hop_move rfl) rfl rfl pre0 rfl rfl ?_
    refine hq_ 27 (hop_ia_sl el_52 rfl rfl (by omega) (by omega) (nb rfl)) rfl rfl pre0 rfl rfl ?_
    refine hq_ 28 (HOp.val (v' := ptH (⟨1, 0, 0, s, []⟩)) (hop_load_fp ty_100 rfl (nb rfl) (fun h => (by cases h))) (pt_at (by omega) htop.1)) rfl rfl pre0 rfl rfl ?_
    refine hm_1 6 (hop_alloc (id := 6) (sz := 5) zc_100 rfl rfl (nb rfl) (nb rfl)) rfl rfl pre0 rfl rfl (c' := c + 1) rfl ?_
    refine hm_s1 (hol_storeW ty_100 rfl rfl rfl rfl) rfl rfl (pre1 rfl) (c' := c + 2) rfl ?_
    refine hseq_nil ?_
    refine h8 _ ?_
    refine hw_seq (fun Nh9 h9 => ?_)
    refine hw_seq (fun Nh10 h10 => ?_)
    refine hw_region ?_
    refine hq_ 29 (hop_fa fd_100_0 rfl) rfl rfl pre0 rfl rfl ?_
    refine hq_ 30 (hol_load ty_3 rfl (nb rfl) (nb rfl) (fun h => (by rfl))) rfl rfl (pre1 rfl) rfl rfl ?_
    refine hseq_nil ?_
    refine h10 _ ?_
    refine hw_block ?_
    refine hw_seq (fun Nh11 h11 => ?_)
    refine hw_region ?_
    refine hq_ 32 (hop_eql rfl rfl) rfl rfl pre0 rfl rfl ?_
    refine hq_ 31 (hop_assign rfl) rfl rfl pre0 rfl rfl ?_
    refine hseq_nil ?_
    refine h11 _ ?_
    refine hw_cond _ rfl (fun hc1 => ?_) (fun hc1 => ?_)
    · have hr1 := hc1; (try simp only [hcs, Int.reduceToNat] at hc1)
      refine hd_start ?_
      refine hd_q 33 (hop_move rfl) rfl rfl pre0 rfl rfl (k' := 1) rfl ?_
      refine hd_q 34 (hop_move rfl) rfl rfl pre0 rfl rfl (k' := 2) rfl ?_
      refine hd_q 35 (hop_nilcheck_pt rfl) rfl rfl pre0 rfl rfl (k' := 3) rfl ?_
      refine hd_q 36 (hop_fa fd_114_1 rfl) rfl rfl pre0 rfl rfl (k' := 4) rfl ?_
      refine hd_q 37 (hol_load ty_33 rfl (nb rfl) (nb rfl) (fun h => (by rfl))) rfl rfl (pre1 rfl) rfl rfl (k' := 5) rfl ?_
      refine hd_q 38 (hop_fa fd_100_3 rfl) rfl rfl pre0 rfl rfl (k' := 6) rfl ?_
      refine hd_q 39 (hol_load ty_9 rfl (nb rfl) (nb rfl) (fun h => (by rfl))) rfl rfl (pre1 rfl) rfl rfl (k' := 7) rfl ?_
      refine hd_q 40 (hop_build (hs := [(0, 1, _), (4, 1, _)]) st_41 rfl rfl ⟨rfl, rfl, rfl, rfl, rfl, ⟨rfl, rfl, rfl, rfl, rfl, trivial⟩⟩) rfl rfl pre0 rfl rfl (k' := 8) rfl ?_
      refine hd_1 41 (hop_buildSlice (id := 41) (hs := [_]) ei_33 (nb rfl) rfl (nb rfl) ⟨rfl, rfl, rfl, rfl, trivial⟩) rfl rfl pre0 rfl rfl (k' := 9) rfl ?_
      refine hd_1 42 (hol_append ei_33 (nb rfl) rfl (by omega) (nb rfl) (srl_os0 rfl (nb rfl)) (by omega) rfl) rfl rfl (preC rfl (pre1 rfl)) rfl rfl (k' := 10) rfl ?_
      refine hd_q 43 (hop_nilcheck_pt rfl) rfl rfl pre0 rfl rfl (k' := 11) rfl ?_
      refine hd_q 44 (hop_fa fd_114_1 rfl) rfl rfl pre0 rfl rfl (k' := 12) rfl ?_
      refine hd_s1 (hol_store ty_33 rfl rfl rfl rfl (nb rfl) (nb rfl) (nb rfl)) rfl rfl (pre1 rfl) (k' := 13) rfl ?_
      refine hd_nil (by kernel_rfl) (by kernel_rfl) (c' := c + 15) rfl ?_
      refine hq_block ?_
      refine h9 _ ?_
      refine hw_seq (fun Nh12 h12 => ?_)
      refine (hsub_ob 9001 (shO g e (c + 11) (out ++ [(⟨1, 0, 0, 0, s⟩ : Sg)]).length) rfl (by exact osub2 (.refl _) (sb_os (by first | (simp; done) | (simp; omega))))).wp ?_; refine (hsub_ob 9002 (sgsO (c + 11) (out ++ [(⟨1, 0, 0, 0, s⟩ : Sg)])) rfl (by exact (osub_snoc (enc := sgF) (d := default) (x := (⟨1, 0, 0, 0, s⟩ : Sg)) (out := out) rfl (fun i j _ _ => .refl _) (sb_sg5 (.refl _) (.refl _) (.refl _) (.refl _) (.refl _))))).wp ?_
      refine hw_region ?_
      refine hq_ 147 (hop_move rfl) rfl rfl pre0 rfl rfl ?_
      refine hseq_nil ?_
      refine h12 _ ?_
      refine hw_cond _ rfl (fun hc8 => ?_) (fun hc8 => ?_)
      · have hr8 := hc8; (try simp only [hcs, Int.reduceToNat] at hc8)
        exfalso; rw [hc0] at hr8; cases hr8
      · have hr8 := hc8; (try simp only [hcs, Int.reduceToNat] at hc8)
        refine hw_skip ?_
        refine hq_fall ?_
        refine hf_retR0 ok hX RetS.one rfl  [] rfl pre0 ((c + 11)) (trivial) (by rfl) (by rfl) ((by first | exact .fz _ _ (.imm _) | exact .os _ _ _ _ _ rfl rfl | exact .pt _ _ _ _ _ rfl rfl | exact .nps _ _ _ rfl rfl | (dsimp only; exact .fz _ _ Frz.fz) | exact .fz _ _ (.tup 0 _ _ (fun i hi => absurd hi (Nat.not_lt_zero _))))) ?_
        exact ⟨⟨_, rfl, okz_sh rfl rfl (by rw [hw0 hc8]; rfl)⟩, ⟨⟨_, rfl, okz_sgs (by rw [hw0 hc8]; rfl)⟩, trivial⟩⟩
    · have hr1 := hc1; (try simp only [hcs, Int.reduceToNat] at hc1)
      exfalso; simp at hr1
theorem AtP.mono_times {e : List Pt} {b : Nat} {lo hi : Int} {t : T} (h : AtP e b (T.flat b (.times lo hi t))) : AtP e b (T.flat b t) := by
  simp only [T.flat] at h; exact atP_left h
theorem lay_times (e : List Pt) (b : Nat) (he : e.length ≤ 100000) (lo hi : Int) (t : T) (ih : LayC e b t) (hat : AtP e b (T.flat b (T.times lo hi t))) : LayC e b (T.times lo hi t) := by
  intro c g g2 out bin hb
  have htop := at_top hat
  have hwl := wrap_len bin (T.times lo hi t).sig
  have hw1 : bin = true → wrapS bin (T.times lo hi t).sig = [(⟨2, 0, 0, 0, []⟩ : Sg)] ++ (T.times lo hi t).sig ++ [(⟨3, 0, 0, 0, []⟩ : Sg)] := fun h => by rw [h]; rfl
  have hw0 : bin = false → wrapS bin (T.times lo hi t).sig = (T.times lo hi t).sig := fun h => by rw [h]; rfl
  have hlw1 : bin = true → (wrapS bin (T.times lo hi t).sig).length = (T.times lo hi t).sig.length + 2 := fun h => by rw [hw1 h, List.length_append, List.length_append]; show 1 + _ + 1 = _; omega
  have hsp := T.size_pos (T.times lo hi t)
  have hka := AtP.mono_times hat
  have hkt := (at_top hka).1
  have hkl := (at_top hka).2
  have hts := t.size_pos
  have hsz : (T.times lo hi t).sig.length = (wrapS (inB 4 t.kind) t.sig).length + 1 := by simp [T.sig]
  replace hkt : (e.getD (b + t.size - 1) default).kind = t.kind := by rw [hkt, top_kind]
  refine hfun_of Tryd.func70 rfl (by kernel_rfl) _ _ _ _ rfl 158 rfl rfl (fun X ok hX => ?_)
  refine hw_seq (fun Nh1 h1 => ?_)
  refine hw_seq (fun Nh2 h2 => ?_)
  refine hw_region ?_
  refine hq_ 11 (hop_move rfl) rfl rfl pre0 rfl rfl ?_
  refine hseq_nil ?_
  refine h2 _ ?_
  refine hw_cond _ rfl (fun hc0 => ?_) (fun hc0 => ?_)
  · have hr0 := hc0; (try simp only [hcs, Int.reduceToNat] at hc0)
    have ho1 : (out ++ [(⟨2, 0, 0, 0, []⟩ : Sg)]).length = out.length + 1 := (by simp); have hlw := hlw1 hc0
    refine hw_region ?_
    refine hq_ 12 (hop_move rfl) rfl rfl pre0 rfl rfl ?_
    refine hq_ 13 (hop_move rfl) rfl rfl pre0 rfl rfl ?_
    refine hq_ 14 (hop_nilcheck_pt rfl) rfl rfl pre0 rfl rfl ?_
    refine hq_ 15 (hop_fa fd_114_1 rfl) rfl rfl pre0 rfl rfl ?_
    refine hq_ 16 (hol_load ty_33 rfl (nb rfl) (nb rfl) (fun h => (by rfl))) rfl rfl (pre1 rfl) rfl rfl ?_
    refine hq_ 17 (hop_build (hs := [(0, 1, _)]) st_41 rfl rfl ⟨rfl, rfl, rfl, rfl, rfl, trivial⟩) rfl rfl pre0 rfl rfl ?_
    refine hm_1 18 (hop_buildSlice (id := 18) (hs := [_]) ei_33 (nb rfl) rfl (nb rfl) ⟨rfl, rfl, rfl, rfl, trivial⟩) rfl rfl pre0 rfl rfl (c' := c + 1) rfl ?_
    refine hm_1 19 (hol_append ei_33 (nb rfl) rfl (by omega) (nb rfl) (srl_os0 rfl (nb rfl)) (by omega) rfl) rfl rfl (preC rfl (pre1 rfl)) rfl rfl (c' := c + 2) rfl ?_
    refine hq_ 20 (hop_nilcheck_pt rfl) rfl rfl pre0 rfl rfl ?_
    refine hq_ 21 (hop_fa fd_114_1 rfl) rfl rfl pre0 rfl rfl ?_
    refine hm_s1 (hol_store ty_33 rfl rfl rfl rfl (nb rfl) (nb rfl) (nb rfl)) rfl rfl (pre1 rfl) (c' := c + 3) rfl ?_
    refine hseq_nil ?_
    refine h1 _ ?_
    refine hw_seq (fun Nh3 h3 => ?_)
    refine (hsub_ob 9001 (shO g e (c + 1) (out ++ [(⟨2, 0, 0, 0, []⟩ : Sg)]).length) rfl (by exact osub2 (.refl _) (sb_os (by first | (simp; done) | (simp; omega))))).wp ?_; refine (hsub_ob 9002 (sgsO (c + 1) (out ++ [(⟨2, 0, 0, 0, []⟩ : Sg)])) rfl (by exact (osub_snoc (enc := sgF) (d := default) (x := (⟨2, 0, 0, 0, []⟩ : Sg)) (out := out) rfl (fun i j _ _ => .refl _) (sb_sg5 (.refl _) (.refl _) (.refl _) (.refl _) (.refl _))))).wp ?_
    refine hw_region ?_
    refine hq_ 22 (hop_move rfl) rfl rfl pre0 rfl rfl ?_
    refine hq_ 23 (hop_nilcheck_pt rfl) rfl rfl pre0 rfl rfl ?_
    refine hq_ 24 (hop_fa fd_114_0 rfl) rfl rfl pre0 rfl rfl ?_
    refine hq_ 25 (hol_load ty_52 rfl (nb rfl) (nb rfl) (fun h => (by rfl))) rfl rfl (pre1 rfl) rfl rfl ?_
    refine hq_ 26 (hop_move rfl) rfl rfl pre0 rfl rfl ?_
    refine hq_ 27 (hop_ia_sl el_52 rfl rfl (by omega) (by omega) (nb rfl)) rfl rfl pre0 rfl rfl ?_
    refine hq_ 28 (HOp.val (v' := ptH (⟨4, lo, hi, [], [((b + t.size : Nat) : Int) - 1]⟩)) (hop_load_fp ty_100 rfl (nb rfl) (fun h => (by cases h))) (pt_at (by omega) htop.1)) rfl rfl pre0 rfl rfl ?_
    refine hm_1 6 (hop_alloc (id := 6) (sz := 5) zc_100 rfl rfl (nb rfl) (nb rfl)) rfl rfl pre0 rfl rfl (c' := c + 4) rfl ?_
    refine hm_s1 (hol_storeW ty_100 rfl rfl rfl rfl) rfl rfl (pre1 rfl) (c' := c + 5) rfl ?_
    refine hseq_nil ?_
    refine h3 _ ?_
    refine hw_seq (fun Nh4 h4 => ?_)
    refine hw_seq (fun Nh5 h5 => ?_)
    refine hw_region ?_
    refine hq_ 29 (hop_fa fd_100_0 rfl) rfl rfl pre0 rfl rfl ?_
    refine hq_ 30 (hol_load ty_3 rfl (nb rfl) (nb rfl) (fun h => (by rfl))) rfl rfl (pre1 rfl) rfl rfl ?_
    refine hseq_nil ?_
    refine h5 _ ?_
    refine hw_block ?_
    refine hw_seq (fun Nh6 h6 => ?_)
    refine hw_region ?_
    refine hq_ 32 (hop_eql rfl rfl) rfl rfl pre0 rfl rfl ?_
    refine hq_ 31 (hop_assign rfl) rfl rfl pre0 rfl rfl ?_
    refine hseq_nil ?_
    refine h6 _ ?_
    refine hw_cond _ rfl (fun hc1 => ?_) (fun hc1 => ?_)
    · have hr1 := hc1; (try simp only [hcs, Int.reduceToNat] at hc1)
      exfalso; simp at hr1
    · have hr1 := hc1; (try simp only [hcs, Int.reduceToNat] at hc1)
      refine hw_seq (fun Nh7 h7 => ?_)
      refine hw_region ?_
      refine hq_ 46 (hop_eql rfl rfl) rfl rfl pre0 rfl rfl ?_
      refine hq_ 45 (hop_assign rfl) rfl rfl pre0 rfl rfl ?_
      refine hseq_nil ?_
      refine h7 _ ?_
      refine hw_cond _ rfl (fun hc2 => ?_) (fun hc2 => ?_)
      · have hr2 := hc2; (try simp only [hcs, Int.reduceToNat] at hc2)
        exfalso; simp at hr2
      · have hr2 := hc2; (try simp only [hcs, Int.reduceToNat] at hc2)
        refine hw_seq (fun Nh8 h8 => ?_)
        refine hw_region ?_
        refine hq_ 79 (hop_eql rfl rfl) rfl rfl pre0 rfl rfl ?_
        refine hq_ 78 (hop_assign rfl) rfl rfl pre0 rfl rfl ?_
        refine hseq_nil ?_
        refine h8 _ ?_
        refine hw_cond _ rfl (fun hc4 => ?_) (fun hc4 => ?_)
        · have hr4 := hc4; (try simp only [hcs, Int.reduceToNat] at hc4)
          exfalso; simp at hr4
        · have hr4 := hc4; (try simp only [hcs, Int.reduceToNat] at hc4)
          refine hw_seq (fun Nh9 h9 => ?_)
          refine hw_region ?_
          refine hq_ 114 (hop_eql rfl rfl) rfl rfl pre0 rfl rfl ?_
          refine hq_ 113 (hop_assign rfl) rfl rfl pre0 rfl rfl ?_
          refine hseq_nil ?_
          refine h9 _ ?_
          refine hw_cond _ rfl (fun hc7 => ?_) (fun hc7 => ?_)
          · have hr7 := hc7; (try simp only [hcs, Int.reduceToNat] at hc7)
            refine hw_seq (fun Nh10 h10 => ?_)
            refine hd_start ?_
            refine hd_q 115 (hop_move rfl) rfl rfl pre0 rfl rfl (k' := 1) rfl ?_
            refine hd_q 116 (hop_fa fd_100_4 rfl) rfl rfl pre0 rfl rfl (k' := 2) rfl ?_
            refine hd_q 117 (hol_load ty_98 rfl (nb rfl) (nb rfl) (fun h => (by rfl))) rfl rfl (pre1 rfl) rfl rfl (k' := 3) rfl ?_
            refine hd_q 118 (hop_ia_sl el_98 rfl rfl (by omega) (by simp <;> omega) (nb rfl)) rfl rfl pre0 rfl rfl (k' := 4) rfl ?_
            refine hd_q 119 (HOp.val (v' := intV ((b + t.size - 1 : Nat) : Int)) (hop_load_fp ty_3 rfl (nb rfl) (fun h => (by rfl))) (congrArg intV (show ((b + t.size : Nat) : Int) - 1 = ((b + t.size - 1 : Nat) : Int) by omega))) rfl rfl pre0 rfl rfl (k' := 5) rfl ?_
            refine hd_q 120 (hop_move rfl) rfl rfl pre0 rfl rfl (k' := 6) rfl ?_
            refine hd_q 121 (hop_nilcheck_pt rfl) rfl rfl pre0 rfl rfl (k' := 7) rfl ?_
            refine hd_q 122 (hop_fa fd_114_0 rfl) rfl rfl pre0 rfl rfl (k' := 8) rfl ?_
            refine hd_q 123 (hol_load ty_52 rfl (nb rfl) (nb rfl) (fun h => (by rfl))) rfl rfl (pre1 rfl) rfl rfl (k' := 9) rfl ?_
            refine hd_q 124 (hop_fa fd_100_4 rfl) rfl rfl pre0 rfl rfl (k' := 10) rfl ?_
            refine hd_q 125 (hol_load ty_98 rfl (nb rfl) (nb rfl) (fun h => (by rfl))) rfl rfl (pre1 rfl) rfl rfl (k' := 11) rfl ?_
            refine hd_q 126 (hop_ia_sl el_98 rfl rfl (by omega) (by simp <;> omega) (nb rfl)) rfl rfl pre0 rfl rfl (k' := 12) rfl ?_
            refine hd_q 127 (HOp.val (v' := intV ((b + t.size - 1 : Nat) : Int)) (hop_load_fp ty_3 rfl (nb rfl) (fun h => (by rfl))) (congrArg intV (show ((b + t.size : Nat) : Int) - 1 = ((b + t.size - 1 : Nat) : Int) by omega))) rfl rfl pre0 rfl rfl (k' := 13) rfl ?_
            refine hd_q 128 (hop_ia_sl el_52 rfl rfl (by omega) (by omega) (nb rfl)) rfl rfl pre0 rfl rfl (k' := 14) rfl ?_
            refine hd_q 129 (hop_fa_fp fd_100_0 rfl (nb rfl)) rfl rfl pre0 rfl rfl (k' := 15) rfl ?_
            refine hd_q 130 (HOp.val (v' := intV t.kind) (hop_load_fp ty_3 rfl (nb rfl) (fun h => (by rfl))) (kind_at (by omega) hkt)) rfl rfl pre0 rfl rfl (k' := 16) rfl ?_
            refine hd_q 131 (hop_neq rfl rfl) rfl rfl pre0 rfl rfl (k' := 17) rfl ?_
            refine hd_cut (by kernel_rfl) (by kernel_rfl) (by kernel_rfl) (by kernel_rfl) (c' := c + 22) rfl ?_ (by simp)
            refine hf_callR 132 (xs := [_, _, _]) (pre := [(9001, _), (9002, _)]) (ih _ g (c + 1) (out ++ [(⟨2, 0, 0, 0, []⟩ : Sg)]) (inB 4 t.kind) (by omega)) ⟨rfl, ⟨rfl, ⟨rfl, trivial⟩⟩⟩ (preC rfl (preC rfl pre0)) rfl rfl (fun g3 c1 hx1 => ?_)
            (try dsimp only)
            refine hseq_nil ?_
            refine h10 _ ?_
            have hol : ((out ++ [(⟨2, 0, 0, 0, []⟩ : Sg)]) ++ wrapS (inB 4 t.kind) t.sig).length = ((out ++ [(⟨2, 0, 0, 0, []⟩ : Sg)])).length + (wrapS (inB 4 t.kind) t.sig).length := List.length_append
            refine hd_start ?_
            refine hd_q 133 (hop_move rfl) rfl rfl pre0 rfl rfl (k' := 1) rfl ?_
            refine hd_q 134 (hop_move rfl) rfl rfl pre0 rfl rfl (k' := 2) rfl ?_
            refine hd_q 135 (hop_nilcheck_pt rfl) rfl rfl pre0 rfl rfl (k' := 3) rfl ?_
            refine hd_q 136 (hop_fa fd_114_1 rfl) rfl rfl pre0 rfl rfl (k' := 4) rfl ?_
            refine hd_q 137 (hol_load ty_33 rfl (nb rfl) (nb rfl) (fun h => (by rfl))) rfl rfl (pre1 rfl) rfl rfl (k' := 5) rfl ?_
            refine hd_q 138 (hop_fa fd_100_1 rfl) rfl rfl pre0 rfl rfl (k' := 6) rfl ?_
            refine hd_q 139 (hol_load ty_3 rfl (nb rfl) (nb rfl) (fun h => (by rfl))) rfl rfl (pre1 rfl) rfl rfl (k' := 7) rfl ?_
            refine hd_q 140 (hop_fa fd_100_2 rfl) rfl rfl pre0 rfl rfl (k' := 8) rfl ?_
            refine hd_q 141 (hol_load ty_3 rfl (nb rfl) (nb rfl) (fun h => (by rfl))) rfl rfl (pre1 rfl) rfl rfl (k' := 9) rfl ?_
            refine hd_q 142 (hop_build (hs := [(0, 1, _), (2, 1, _), (3, 1, _)]) st_41 rfl rfl ⟨rfl, rfl, rfl, rfl, rfl, ⟨rfl, rfl, rfl, rfl, rfl, ⟨rfl, rfl, rfl, rfl, rfl, trivial⟩⟩⟩) rfl rfl pre0 rfl rfl (k' := 10) rfl ?_
            refine hd_1 143 (hop_buildSlice (id := 143) (hs := [_]) ei_33 (nb rfl) rfl (nb rfl) ⟨rfl, rfl, rfl, rfl, trivial⟩) rfl rfl pre0 rfl rfl (k' := 11) rfl ?_
            refine hd_1 144 (hol_append ei_33 (nb rfl) rfl (by omega) (nb rfl) (srl_os0 rfl (nb rfl)) (by omega) rfl) rfl rfl (preC rfl (pre1 rfl)) rfl rfl (k' := 12) rfl ?_
            refine hd_q 145 (hop_nilcheck_pt rfl) rfl rfl pre0 rfl rfl (k' := 13) rfl ?_
            refine hd_q 146 (hop_fa fd_114_1 rfl) rfl rfl pre0 rfl rfl (k' := 14) rfl ?_
            refine hd_s1 (hol_store ty_33 rfl rfl rfl rfl (nb rfl) (nb rfl) (nb rfl)) rfl rfl (pre1 rfl) (k' := 15) rfl ?_
            refine hd_nil (by kernel_rfl) (by kernel_rfl) (c' := c1 + 15) rfl ?_
            refine hq_block ?_
            refine h4 _ ?_
            refine hw_seq (fun Nh11 h11 => ?_)
            refine (hsub_ob 9001 (shO g e (c1 + 11) (((out ++ [(⟨2, 0, 0, 0, []⟩ : Sg)]) ++ wrapS (inB 4 t.kind) t.sig) ++ [(⟨5, 0, lo, hi, []⟩ : Sg)]).length) rfl (by exact osub2 (.refl _) (sb_os (by first | (simp; done) | (simp; omega))))).wp ?_; refine (hsub_ob 9002 (sgsO (c1 + 11) (((out ++ [(⟨2, 0, 0, 0, []⟩ : Sg)]) ++ wrapS (inB 4 t.kind) t.sig) ++ [(⟨5, 0, lo, hi, []⟩ : Sg)])) rfl (by exact (osub_snoc (enc := sgF) (d := default) (x := (⟨5, 0, lo, hi, []⟩ : Sg)) (out := ((out ++ [(⟨2, 0, 0, 0, []⟩ : Sg)]) ++ wrapS (inB 4 t.kind) t.sig)) rfl (fun i j _ _ => .refl _) (sb_sg5 (.refl _) (.refl _) (.refl _) (.refl _) (.refl _))))).wp ?_
            refine hw_region ?_
            refine hq_ 147 (hop_move rfl) rfl rfl pre0 rfl rfl ?_
            refine hseq_nil ?_
            refine h11 _ ?_
            refine hw_cond _ rfl (fun hc8 => ?_) (fun hc8 => ?_)
            · have hr8 := hc8; (try simp only [hcs, Int.reduceToNat] at hc8)
              refine hw_region ?_
              refine hq_ 148 (hop_move rfl) rfl rfl pre0 rfl rfl ?_
              refine hq_ 149 (hop_move rfl) rfl rfl pre0 rfl rfl ?_
              refine hq_ 150 (hop_nilcheck_pt rfl) rfl rfl pre0 rfl rfl ?_
              refine hq_ 151 (hop_fa fd_114_1 rfl) rfl rfl pre0 rfl rfl ?_
              refine hq_ 152 (hol_load ty_33 rfl (nb rfl) (nb rfl) (fun h => (by rfl))) rfl rfl (pre1 rfl) rfl rfl ?_
              refine hq_ 153 (hop_build (hs := [(0, 1, _)]) st_41 rfl rfl ⟨rfl, rfl, rfl, rfl, rfl, trivial⟩) rfl rfl pre0 rfl rfl ?_
              refine hm_1 154 (hop_buildSlice (id := 154) (hs := [_]) ei_33 (nb rfl) rfl (nb rfl) ⟨rfl, rfl, rfl, rfl, trivial⟩) rfl rfl pre0 rfl rfl (c' := c1 + 16) rfl ?_
              refine hm_1 155 (hol_append ei_33 (nb rfl) rfl (by omega) (nb rfl) (srl_os0 rfl (nb rfl)) (by simp <;> omega) rfl) rfl rfl (preC rfl (pre1 rfl)) rfl rfl (c' := c1 + 17) rfl ?_
              refine hq_ 156 (hop_nilcheck_pt rfl) rfl rfl pre0 rfl rfl ?_
              refine hq_ 157 (hop_fa fd_114_1 rfl) rfl rfl pre0 rfl rfl ?_
              refine hm_s1 (hol_store ty_33 rfl rfl rfl rfl (nb rfl) (nb rfl) (nb rfl)) rfl rfl (pre1 rfl) (c' := c1 + 18) rfl ?_
              refine hseq_nil ?_
              refine hq_fall ?_
              refine hf_retR0 ok hX RetS.one rfl  [] rfl pre0 ((c1 + 16)) (trivial) (by rfl) (by rfl) ((by first | exact .fz _ _ (.imm _) | exact .os _ _ _ _ _ rfl rfl | exact .pt _ _ _ _ _ rfl rfl | exact .nps _ _ _ rfl rfl | (dsimp only; exact .fz _ _ Frz.fz) | exact .fz _ _ (.tup 0 _ _ (fun i hi => absurd hi (Nat.not_lt_zero _))))) ?_
              exact ⟨⟨_, rfl, okz2 (.fz _ _ (show Fz [] (ptsV e) (ptsV e) from Frz.fz)) (kz_os rfl rfl (by rw [hw1 hc8]; first | (simp [T.sig]; done) | (simp [T.sig]; omega)))⟩, ⟨⟨_, rfl, okz_sgn (x := (⟨3, 0, 0, 0, []⟩ : Sg)) (by rw [hw1 hc8]; simp [T.sig])⟩, trivial⟩⟩
            · have hr8 := hc8; (try simp only [hcs, Int.reduceToNat] at hc8)
              exfalso; rw [hc0] at hr8; cases hr8
          · have hr7 := hc7; (try simp only [hcs, Int.reduceToNat] at hc7)
            exfalso; simp at hr7
  · have hr0 := hc0; (try simp only [hcs, Int.reduceToNat] at hc0)
    have hlw := congrArg List.length (hw0 hc0)
    refine hw_skip ?_
    refine h1 _ ?_
    refine hw_seq (fun Nh12 h12 => ?_)
    refine hw_region ?_
    refine hq_ 22 (hop_move rfl) rfl rfl pre0 rfl rfl ?_
    refine hq_ 23 (hop_nilcheck_pt rfl) rfl rfl pre0 rfl rfl ?_
    refine hq_ 24 (hop_fa fd_114_0 rfl) rfl rfl pre0 rfl rfl ?_
    refine hq_ 25 (hol_load ty_52 rfl (nb rfl) (nb rfl) (fun h => (by rfl))) rfl rfl (pre1 rfl) rfl rfl ?_
    refine hq_ 26 (hop_move rfl) rfl rfl pre0 rfl rfl ?_
    refine hq_ 27 (hop_ia_sl el_52 rfl rfl (by omega) (by omega) (nb rfl)) rfl rfl pre0 rfl rfl ?_
    refine hq_ 28 (HOp.val (v' := ptH (⟨4, lo, hi, [], [((b + t.size : Nat) : Int) - 1]⟩)) (hop_load_fp ty_100 rfl (nb rfl) (fun h => (by cases h))) (pt_at (by omega) htop.1)) rfl rfl pre0 rfl rfl ?_
    refine hm_1 6 (hop_alloc (id := 6) (sz := 5) zc_100 rfl rfl (nb rfl) (nb rfl)) rfl rfl pre0 rfl rfl (c' := c + 1) rfl ?_
    refine hm_s1 (hol_storeW ty_100 rfl rfl rfl rfl) rfl rfl (pre1 rfl) (c' := c + 2) rfl ?_
    refine hseq_nil ?_
    refine h12 _ ?_
    refine hw_seq (fun Nh13 h13 => ?_)
    refine hw_seq (fun Nh14 h14 => ?_)
    refine hw_region ?_
    refine hq_ 29 (hop_fa fd_100_0 rfl) rfl rfl pre0 rfl rfl ?_
    refine hq_ 30 (hol_load ty_3 rfl (nb rfl) (nb rfl) (fun h => (by rfl))) rfl rfl (pre1 rfl) rfl rfl ?_
    refine hseq_nil ?_
    refine h14 _ ?_
    refine hw_block ?_
    refine hw_seq (fun Nh15 h15 => ?_)
    refine hw_region ?_
    refine hq_ 32 (hop_eql rfl rfl) rfl rfl pre0 rfl rfl ?_
    refine hq_ 31 (hop_assign rfl) rfl rfl pre0 rfl rfl ?_
    refine hseq_nil ?_
    refine h15 _ ?_
    refine hw_cond _ rfl (fun hc1 => ?_) (fun hc1 => ?_)
    · have hr1 := hc1; (try simp only [hcs, Int.reduceToNat] at hc1)
      exfalso; simp at hr1
    · have hr1 := hc1; (try simp only [hcs, Int.reduceToNat] at hc1)
      refine hw_seq (fun Nh16 h16 => ?_)
      refine hw_region ?_
      refine hq_ 46 (hop_eql rfl rfl) rfl rfl pre0 rfl rfl ?_
      refine hq_ 45 (hop_assign rfl) rfl rfl pre0 rfl rfl ?_
      refine hseq_nil ?_
      refine h16 _ ?_
      refine hw_cond _ rfl (fun hc2 => ?_) (fun hc2 => ?_)
      · have hr2 := hc2; (try simp only [hcs, Int.reduceToNat] at hc2)
        exfalso; simp at hr2
      · have hr2 := hc2; (try simp only [hcs, Int.reduceToNat] at hc2)
        refine hw_seq (fun Nh17 h17 => ?_)
        refine hw_region ?_
        refine hq_ 79 (hop_eql rfl rfl) rfl rfl pre0 rfl rfl ?_
        refine hq_ 78 (hop_assign rfl) rfl rfl pre0 rfl rfl ?_
        refine hseq_nil ?_
        refine h17 _ ?_
        refine hw_cond _ rfl (fun hc4 => ?_) (fun hc4 => ?_)
        · have hr4 := hc4; (try simp only [hcs, Int.reduceToNat] at hc4)
          exfalso; simp at hr4
        · have hr4 := hc4; (try simp only [hcs, Int.reduceToNat] at hc4)
          refine hw_seq (fun Nh18 h18 => ?_)
          refine hw_region ?_
          refine hq_ 114 (hop_eql rfl rfl) rfl rfl pre0 rfl rfl ?_
          refine hq_ 113 (hop_assign rfl) rfl rfl pre0 rfl rfl ?_
          refine hseq_nil ?_
          refine h18 _ ?_
          refine hw_cond _ rfl (fun hc7 => ?_) (fun hc7 => ?_)
          · have hr7 := hc7; (try simp only [hcs, Int.reduceToNat] at hc7)
            refine hw_seq (fun Nh19 h19 => ?_)
            refine hd_start ?_
            refine hd_q 115 (hop_move rfl) rfl rfl pre0 rfl rfl (k' := 1) rfl ?_
            refine hd_q 116 (hop_fa fd_100_4 rfl) rfl rfl pre0 rfl rfl (k' := 2) rfl ?_
            refine hd_q 117 (hol_load ty_98 rfl (nb rfl) (nb rfl) (fun h => (by rfl))) rfl rfl (pre1 rfl) rfl rfl (k' := 3) rfl ?_
            refine hd_q 118 (hop_ia_sl el_98 rfl rfl (by omega) (by simp <;> omega) (nb rfl)) rfl rfl pre0 rfl rfl (k' := 4) rfl ?_
            refine hd_q 119 (HOp.val (v' := intV ((b + t.size - 1 : Nat) : Int)) (hop_load_fp ty_3 rfl (nb rfl) (fun h => (by rfl))) (congrArg intV (show ((b + t.size : Nat) : Int) - 1 = ((b + t.size - 1 : Nat) : Int) by omega))) rfl rfl pre0 rfl rfl (k' := 5) rfl ?_
            refine hd_q 120 (hop_move rfl) rfl rfl pre0 rfl rfl (k' := 6) rfl ?_
            refine hd_q 121 (hop_nilcheck_pt rfl) rfl rfl pre0 rfl rfl (k' := 7) rfl ?_
            refine hd_q 122 (hop_fa fd_114_0 rfl) rfl rfl pre0 rfl rfl (k' := 8) rfl ?_
            refine hd_q 123 (hol_load ty_52 rfl (nb rfl) (nb rfl) (fun h => (by rfl))) rfl rfl (pre1 rfl) rfl rfl (k' := 9) rfl ?_
            refine hd_q 124 (hop_fa fd_100_4 rfl) rfl rfl pre0 rfl rfl (k' := 10) rfl ?_
            refine hd_q 125 (hol_load ty_98 rfl (nb rfl) (nb rfl) (fun h => (by rfl))) rfl rfl (pre1 rfl) rfl rfl (k' := 11) rfl ?_
            refine hd_q 126 (hop_ia_sl el_98 rfl rfl (by omega) (by simp <;> omega) (nb rfl)) rfl rfl pre0 rfl rfl (k' := 12) rfl ?_
            refine hd_q 127 (HOp.val (v' := intV ((b + t.size - 1 : Nat) : Int)) (hop_load_fp ty_3 rfl (nb rfl) (fun h => (by rfl))) (congrArg intV (show ((b + t.size : Nat) : Int) - 1 = ((b + t.size - 1 : Nat) : Int) by omega))) rfl rfl pre0 rfl rfl (k' := 13) rfl ?_
            refine hd_q 128 (hop_ia_sl el_52 rfl rfl (by omega) (by omega) (nb rfl)) rfl rfl pre0 rfl rfl (k' := 14) rfl ?_
            refine hd_q 129 (hop_fa_fp fd_100_0 rfl (nb rfl)) rfl rfl pre0 rfl rfl (k' := 15) rfl ?_
            refine hd_q 130 (HOp.val (v' := intV t.kind) (hop_load_fp ty_3 rfl (nb rfl) (fun h => (by rfl))) (kind_at (by omega) hkt)) rfl rfl pre0 rfl rfl (k' := 16) rfl ?_
            refine hd_q 131 (hop_neq rfl rfl) rfl rfl pre0 rfl rfl (k' := 17) rfl ?_
            refine hd_cut (by kernel_rfl) (by kernel_rfl) (by kernel_rfl) (by kernel_rfl) (c' := c + 19) rfl ?_ (by simp)
            refine hf_callR 132 (xs := [_, _, _]) (pre := [(9001, _), (9002, _)]) (ih _ g (g2) out (inB 4 t.kind) (by omega)) ⟨rfl, ⟨rfl, ⟨rfl, trivial⟩⟩⟩ (preC rfl (preC rfl pre0)) rfl rfl (fun g3 c2 hx2 => ?_)
            (try dsimp only)
            refine hseq_nil ?_
            refine h19 _ ?_
            have hol : (out ++ wrapS (inB 4 t.kind) t.sig).length = (out).length + (wrapS (inB 4 t.kind) t.sig).length := List.length_append
            refine hd_start ?_
            refine hd_q 133 (hop_move rfl) rfl rfl pre0 rfl rfl (k' := 1) rfl ?_
            refine hd_q 134 (hop_move rfl) rfl rfl pre0 rfl rfl (k' := 2) rfl ?_
            refine hd_q 135 (hop_nilcheck_pt rfl) rfl rfl pre0 rfl rfl (k' := 3) rfl ?_
            refine hd_q 136 (hop_fa fd_114_1 rfl) rfl rfl pre0 rfl rfl (k' := 4) rfl ?_
            refine hd_q 137 (hol_load ty_33 rfl (nb rfl) (nb rfl) (fun h => (by rfl))) rfl rfl (pre1 rfl) rfl rfl (k' := 5) rfl ?_
            refine hd_q 138 (hop_fa fd_100_1 rfl) rfl rfl pre0 rfl rfl (k' := 6) rfl ?_
            refine hd_q 139 (hol_load ty_3 rfl (nb rfl) (nb rfl) (fun h => (by rfl))) rfl rfl (pre1 rfl) rfl rfl (k' := 7) rfl ?_
            refine hd_q 140 (hop_fa fd_100_2 rfl) rfl rfl pre0 rfl rfl (k' := 8) rfl ?_
            refine hd_q 141 (hol_load ty_3 rfl (nb rfl) (nb rfl) (fun h => (by rfl))) rfl rfl (pre1 rfl) rfl rfl (k' := 9) rfl ?_
            refine hd_q 142 (hop_build (hs := [(0, 1, _), (2, 1, _), (3, 1, _)]) st_41 rfl rfl ⟨rfl, rfl, rfl, rfl, rfl, ⟨rfl, rfl, rfl, rfl, rfl, ⟨rfl, rfl, rfl, rfl, rfl, trivial⟩⟩⟩) rfl rfl pre0 rfl rfl (k' := 10) rfl ?_
            refine hd_1 143 (hop_buildSlice (id := 143) (hs := [_]) ei_33 (nb rfl) rfl (nb rfl) ⟨rfl, rfl, rfl, rfl, trivial⟩) rfl rfl pre0 rfl rfl (k' := 11) rfl ?_
            refine hd_1 144 (hol_append ei_33 (nb rfl) rfl (by omega) (nb rfl) (srl_os0 rfl (nb rfl)) (by omega) rfl) rfl rfl (preC rfl (pre1 rfl)) rfl rfl (k' := 12) rfl ?_
            refine hd_q 145 (hop_nilcheck_pt rfl) rfl rfl pre0 rfl rfl (k' := 13) rfl ?_
            refine hd_q 146 (hop_fa fd_114_1 rfl) rfl rfl pre0 rfl rfl (k' := 14) rfl ?_
            refine hd_s1 (hol_store ty_33 rfl rfl rfl rfl (nb rfl) (nb rfl) (nb rfl)) rfl rfl (pre1 rfl) (k' := 15) rfl ?_
            refine hd_nil (by kernel_rfl) (by kernel_rfl) (c' := c2 + 15) rfl ?_
            refine hq_block ?_
            refine h13 _ ?_
            refine hw_seq (fun Nh20 h20 => ?_)
            refine (hsub_ob 9001 (shO g e (c2 + 11) ((out ++ wrapS (inB 4 t.kind) t.sig) ++ [(⟨5, 0, lo, hi, []⟩ : Sg)]).length) rfl (by exact osub2 (.refl _) (sb_os (by first | (simp; done) | (simp; omega))))).wp ?_; refine (hsub_ob 9002 (sgsO (c2 + 11) ((out ++ wrapS (inB 4 t.kind) t.sig) ++ [(⟨5, 0, lo, hi, []⟩ : Sg)])) rfl (by exact (osub_snoc (enc := sgF) (d := default) (x := (⟨5, 0, lo, hi, []⟩ : Sg)) (out := (out ++ wrapS (inB 4 t.kind) t.sig)) rfl (fun i j _ _ => .refl _) (sb_sg5 (.refl _) (.refl _) (.refl _) (.refl _) (.refl _))))).wp ?_
            refine hw_region ?_
            refine hq_ 147 (hop_move rfl) rfl rfl pre0 rfl rfl ?_
            refine hseq_nil ?_
            refine h20 _ ?_
            refine hw_cond _ rfl (fun hc8 => ?_) (fun hc8 => ?_)
            · have hr8 := hc8; (try simp only [hcs, Int.reduceToNat] at hc8)
              exfalso; rw [hc0] at hr8; cases hr8
            · have hr8 := hc8; (try simp only [hcs, Int.reduceToNat] at hc8)
              refine hw_skip ?_
              refine hq_fall ?_
              refine hf_retR0 ok hX RetS.one rfl  [] rfl pre0 ((c2 + 11)) (trivial) (by rfl) (by rfl) ((by first | exact .fz _ _ (.imm _) | exact .os _ _ _ _ _ rfl rfl | exact .pt _ _ _ _ _ rfl rfl | exact .nps _ _ _ rfl rfl | (dsimp only; exact .fz _ _ Frz.fz) | exact .fz _ _ (.tup 0 _ _ (fun i hi => absurd hi (Nat.not_lt_zero _))))) ?_
              exact ⟨⟨_, rfl, okz_sh rfl rfl (by rw [hw0 hc8]; simp [T.sig])⟩, ⟨⟨_, rfl, okz_sgs (by rw [hw0 hc8]; simp [T.sig])⟩, trivial⟩⟩
          · have hr7 := hc7; (try simp only [hcs, Int.reduceToNat] at hc7)
            exfalso; simp at hr7
theorem kids_len {ts : List T} {k : Int} {i : Nat} (hok : T.okL ts = true) (hi : i ≤ ts.length) : (T.sigL k true (ts.take i)).length ≤ (T.sigL k true ts).length := by
  by_cases h : i < ts.length
  · rw [sigL_cut k ts true i h]; simp only [List.length_append]; omega
  · rw [show i = ts.length by omega, List.take_length]; exact Nat.le_refl _
theorem kid_next_len {ts : List T} {k : Int} {i : Nat} (h : i < ts.length) : (T.sigL k true (ts.take i)).length + (orS k (decide (i = 0))).length + (wrapS (inB k (ts.getD i default).kind) (ts.getD i default).sig).length ≤ (T.sigL k true ts).length := by
  have := sigL_cut k ts true i h
  rw [Bool.true_and] at this
  rw [this]; simp only [List.length_append]; omega
theorem lay_row (e : List Pt) (b : Nat) (he : e.length ≤ 100000) (ts : List T) (hok : T.okL ts = true) (hts : ts.length ≤ 100000) (ih : ∀ i, i < ts.length → LayC e (b + T.sizeL (ts.take i)) (ts.getD i default)) (hat : AtP e b (T.flat b (T.many 2 ts))) : LayC e b (T.many 2 ts) := by
  intro c g g2 out bin hb
  have htop := at_top hat
  have hwl := wrap_len bin (T.many 2 ts).sig
  have hw1 : bin = true → wrapS bin (T.many 2 ts).sig = [(⟨2, 0, 0, 0, []⟩ : Sg)] ++ (T.many 2 ts).sig ++ [(⟨3, 0, 0, 0, []⟩ : Sg)] := fun h => by rw [h]; rfl
  have hw0 : bin = false → wrapS bin (T.many 2 ts).sig = (T.many 2 ts).sig := fun h => by rw [h]; rfl
  have hlw1 : bin = true → (wrapS bin (T.many 2 ts).sig).length = (T.many 2 ts).sig.length + 2 := fun h => by rw [hw1 h, List.length_append, List.length_append]; show 1 + _ + 1 = _; omega
  have hsp := T.size_pos (T.many 2 ts)
  have hrl := rootsL_len ts b
  have hsl : (T.many 2 ts).sig.length = (T.sigL 2 true ts).length := rfl
  refine hfun_of Tryd.func70 rfl (by kernel_rfl) _ _ _ _ rfl 158 rfl rfl (fun X ok hX => ?_)
  refine hw_seq (fun Nh1 h1 => ?_)
  refine hw_seq (fun Nh2 h2 => ?_)
  refine hw_region ?_
  refine hq_ 11 (hop_move rfl) rfl rfl pre0 rfl rfl ?_
  refine hseq_nil ?_
  refine h2 _ ?_
  refine hw_cond _ rfl (fun hc0 => ?_) (fun hc0 => ?_)
  · have hr0 := hc0; (try simp only [hcs, Int.reduceToNat] at hc0)
    have ho1 : (out ++ [(⟨2, 0, 0, 0, []⟩ : Sg)]).length = out.length + 1 := (by simp); have hlw := hlw1 hc0
    refine hw_region ?_
    refine hq_ 12 (hop_move rfl) rfl rfl pre0 rfl rfl ?_
    refine hq_ 13 (hop_move rfl) rfl rfl pre0 rfl rfl ?_
    refine hq_ 14 (hop_nilcheck_pt rfl) rfl rfl pre0 rfl rfl ?_
    refine hq_ 15 (hop_fa fd_114_1 rfl) rfl rfl pre0 rfl rfl ?_
    refine hq_ 16 (hol_load ty_33 rfl (nb rfl) (nb rfl) (fun h => (by rfl))) rfl rfl (pre1 rfl) rfl rfl ?_
    refine hq_ 17 (hop_build (hs := [(0, 1, _)]) st_41 rfl rfl ⟨rfl, rfl, rfl, rfl, rfl, trivial⟩) rfl rfl pre0 rfl rfl ?_
    refine hm_1 18 (hop_buildSlice (id := 18) (hs := [_]) ei_33 (nb rfl) rfl (nb rfl) ⟨rfl, rfl, rfl, rfl, trivial⟩) rfl rfl pre0 rfl rfl (c' := c + 1) rfl ?_
    refine hm_1 19 (hol_append ei_33 (nb rfl) rfl (by omega) (nb rfl) (srl_os0 rfl (nb rfl)) (by omega) rfl) rfl rfl (preC rfl (pre1 rfl)) rfl rfl (c' := c + 2) rfl ?_
    refine hq_ 20 (hop_nilcheck_pt rfl) rfl rfl pre0 rfl rfl ?_
    refine hq_ 21 (hop_fa fd_114_1 rfl) rfl rfl pre0 rfl rfl ?_
    refine hm_s1 (hol_store ty_33 rfl rfl rfl rfl (nb rfl) (nb rfl) (nb rfl)) rfl rfl (pre1 rfl) (c' := c + 3) rfl ?_
    refine hseq_nil ?_
    refine h1 _ ?_
    refine hw_seq (fun Nh3 h3 => ?_)
    refine (hsub_ob 9001 (shO g e (c + 1) (out ++ [(⟨2, 0, 0, 0, []⟩ : Sg)]).length) rfl (by exact osub2 (.refl _) (sb_os (by first | (simp; done) | (simp; omega))))).wp ?_; refine (hsub_ob 9002 (sgsO (c + 1) (out ++ [(⟨2, 0, 0, 0, []⟩ : Sg)])) rfl (by exact (osub_snoc (enc := sgF) (d := default) (x := (⟨2, 0, 0, 0, []⟩ : Sg)) (out := out) rfl (fun i j _ _ => .refl _) (sb_sg5 (.refl _) (.refl _) (.refl _) (.refl _) (.refl _))))).wp ?_
    refine hw_region ?_
    refine hq_ 22 (hop_move rfl) rfl rfl pre0 rfl rfl ?_
    refine hq_ 23 (hop_nilcheck_pt rfl) rfl rfl pre0 rfl rfl ?_
    refine hq_ 24 (hop_fa fd_114_0 rfl) rfl rfl pre0 rfl rfl ?_
    refine hq_ 25 (hol_load ty_52 rfl (nb rfl) (nb rfl) (fun h => (by rfl))) rfl rfl (pre1 rfl) rfl rfl ?_
    refine hq_ 26 (hop_move rfl) rfl rfl pre0 rfl rfl ?_
    refine hq_ 27 (hop_ia_sl el_52 rfl rfl (by omega) (by omega) (nb rfl)) rfl rfl pre0 rfl rfl ?_
    refine hq_ 28 (HOp.val (v' := ptH (⟨2, 0, 0, [], rootsL b ts⟩)) (hop_load_fp ty_100 rfl (nb rfl) (fun h => (by cases h))) (pt_at (by omega) htop.1)) rfl rfl pre0 rfl rfl ?_
    refine hm_1 6 (hop_alloc (id := 6) (sz := 5) zc_100 rfl rfl (nb rfl) (nb rfl)) rfl rfl pre0 rfl rfl (c' := c + 4) rfl ?_
    refine hm_s1 (hol_storeW ty_100 rfl rfl rfl rfl) rfl rfl (pre1 rfl) (c' := c + 5) rfl ?_
    refine hseq_nil ?_
    refine h3 _ ?_
    refine hw_seq (fun Nh4 h4 => ?_)
    refine hw_seq (fun Nh5 h5 => ?_)
    refine hw_region ?_
    refine hq_ 29 (hop_fa fd_100_0 rfl) rfl rfl pre0 rfl rfl ?_
    refine hq_ 30 (hol_load ty_3 rfl (nb rfl) (nb rfl) (fun h => (by rfl))) rfl rfl (pre1 rfl) rfl rfl ?_
    refine hseq_nil ?_
    refine h5 _ ?_
    refine hw_block ?_
    refine hw_seq (fun Nh6 h6 => ?_)
    refine hw_region ?_
    refine hq_ 32 (hop_eql rfl rfl) rfl rfl pre0 rfl rfl ?_
    refine hq_ 31 (hop_assign rfl) rfl rfl pre0 rfl rfl ?_
    refine hseq_nil ?_
    refine h6 _ ?_
    refine hw_cond _ rfl (fun hc1 => ?_) (fun hc1 => ?_)
    · have hr1 := hc1; (try simp only [hcs, Int.reduceToNat] at hc1)
      exfalso; simp at hr1
    · have hr1 := hc1; (try simp only [hcs, Int.reduceToNat] at hc1)
      refine hw_seq (fun Nh7 h7 => ?_)
      refine hw_region ?_
      refine hq_ 46 (hop_eql rfl rfl) rfl rfl pre0 rfl rfl ?_
      refine hq_ 45 (hop_assign rfl) rfl rfl pre0 rfl rfl ?_
      refine hseq_nil ?_
      refine h7 _ ?_
      refine hw_cond _ rfl (fun hc2 => ?_) (fun hc2 => ?_)
      · have hr2 := hc2; (try simp only [hcs, Int.reduceToNat] at hc2)
        refine hw_seq (fun Nh8 h8 => ?_)
        obtain ⟨o1, ho⟩ : ∃ o, o = (out ++ [(⟨2, 0, 0, 0, []⟩ : Sg)]) := ⟨_, rfl⟩; rw [← ho]; have hlo : o1.length = out.length + 1 := (by rw [ho]; exact ho1); obtain ⟨gi, hgi⟩ : ∃ x, x = c + 1 := ⟨_, rfl⟩; rw [← hgi]
        refine hw_region ?_
        refine hq_ 47 (hop_fa fd_100_4 rfl) rfl rfl pre0 rfl rfl ?_
        refine hq_ 48 (hol_load ty_98 rfl (nb rfl) (nb rfl) (fun h => (by rfl))) rfl rfl (pre1 rfl) rfl rfl ?_
        refine hq_ 49 (hop_len_sl (T := 98) rfl (elOf_spec el_98).1 rfl) rfl rfl pre0 rfl rfl ?_
        refine hq_ 50 (hop_move rfl) rfl rfl pre0 rfl rfl ?_
        refine hseq_nil ?_
        refine h8 _ ?_
        refine hw_block ?_
        refine hw_loopc (α := Nat × List Sg × Nat) (fun x c => ⟨158, [(0, .v (.pt 9001 g 0 0)), (2, .v (boolV bin)), (48, .v (kidsV (rootsL b ts))), (49, .v (intV (rootsL b ts).length)), (50, .v (intV x.1))], [(9001, shO g e x.2.2 x.2.1.length), (9002, sgsO x.2.2 x.2.1)], c⟩) (fun x => x.1 ≤ ts.length ∧ x.2.1 = o1 ++ T.sigL 2 true (ts.take x.1)) (fun x => ts.length - x.1) ((0, o1, gi)) (by exact ⟨Nat.zero_le _, by simp [T.sigL]⟩) (hsub_of rfl (Nat.le_refl _) (TmSub.cons rfl (Sb.refl _) (TmSub.cons rfl (Sb.refl _) (TmSub.cons rfl (Sb.refl _) (TmSub.cons rfl (Sb.refl _) (TmSub.cons rfl (Sb.refl _) TmSub.nil))))) (HpSub.cons rfl (OSub.refl _) (HpSub.cons rfl (OSub.refl _) HpSub.nil))) (fun x c hx NhL9 hL9 => ?_)
        revert hx hL9; obtain ⟨i, o, gg⟩ := x; intro hx hL9; dsimp only at hx hL9 ⊢
        obtain ⟨hi, hoo⟩ := hx
        have hol := kids_len hok (i := i) (k := 2) hi; have hol2 : o.length = o1.length + (T.sigL 2 true (ts.take i)).length := (by rw [hoo, List.length_append])
        refine hw_seq (fun Nh10 h10 => ?_)
        refine hw_region ?_
        refine hq_ 51 (hop_lss rfl rfl) rfl rfl pre0 rfl rfl ?_
        refine hseq_nil ?_
        refine h10 _ ?_
        refine hw_seq (fun Nh11 h11 => ?_)
        refine hw_cond _ rfl (fun hc3 => ?_) (fun hc3 => ?_)
        · have hr3 := hc3; (try simp only [hcs, Int.reduceToNat] at hc3)
          have him : i < ts.length := (by omega); have hka := at_kid hat him; have hkt := at_top hka; have hkk : (e.getD (b + T.sizeL (ts.take i) + (ts.getD i default).size - 1) default).kind = (ts.getD i default).kind := (by rw [hkt.1, top_kind]); have hks := (ts.getD i default).size_pos; have hkn := kid_next_len (k := 2) him
          refine hw_skip ?_
          refine h11 _ ?_
          refine hw_seq (fun Nh12 h12 => ?_)
          refine hw_block ?_
          refine hw_seq (fun Nh13 h13 => ?_)
          refine hw_region ?_
          refine hq_ 52 (hop_ia_sl el_98 rfl rfl (by omega) (by omega) (nb rfl)) rfl rfl pre0 rfl rfl ?_
          refine hq_ 53 (HOp.val (v' := intV ((b + T.sizeL (ts.take i) + (ts.getD i default).size - 1 : Nat) : Int)) (hop_load_fp ty_3 rfl (nb rfl) (fun h => (by rfl))) (by exact kids_at (i := i) (by omega) (by rw [roots_get ts b i him]; unfold T.root; omega))) rfl rfl pre0 rfl rfl ?_
          refine hq_ 8 (hop_assign rfl) rfl rfl pre0 rfl rfl ?_
          refine hseq_nil ?_
          refine h13 _ ?_
          refine hw_region ?_
          refine hq_ 54 (hop_move rfl) rfl rfl pre0 rfl rfl ?_
          refine hq_ 55 (hop_move rfl) rfl rfl pre0 rfl rfl ?_
          refine hq_ 56 (hop_move rfl) rfl rfl pre0 rfl rfl ?_
          refine hq_ 57 (hop_nilcheck_pt rfl) rfl rfl pre0 rfl rfl ?_
          refine hq_ 58 (hop_fa fd_114_0 rfl) rfl rfl pre0 rfl rfl ?_
          refine hq_ 59 (hol_load ty_52 rfl (nb rfl) (nb rfl) (fun h => (by rfl))) rfl rfl (pre1 rfl) rfl rfl ?_
          refine hq_ 60 (hop_move rfl) rfl rfl pre0 rfl rfl ?_
          refine hq_ 61 (hop_ia_sl el_52 rfl rfl (by omega) (by omega) (nb rfl)) rfl rfl pre0 rfl rfl ?_
          refine hq_ 62 (hop_fa_fp fd_100_0 rfl (nb rfl)) rfl rfl pre0 rfl rfl ?_
          refine hq_ 63 (HOp.val (v' := intV (ts.getD i default).kind) (hop_load_fp ty_3 rfl (nb rfl) (fun h => (by rfl))) (kind_at (by omega) hkk)) rfl rfl pre0 rfl rfl ?_
          refine hq_ 64 (hop_eql rfl rfl) rfl rfl pre0 rfl rfl ?_
          refine hq_ 65 (hop_move rfl) rfl rfl pre0 rfl rfl ?_
          refine hq_g 66 11 65 false _ (fun hb => hop_move rfl) rfl rfl rfl rfl pre0 rfl rfl rfl ?_
          refine hq_g 67 11 65 false _ (fun hb => hop_nilcheck_pt rfl) rfl rfl rfl rfl pre0 rfl rfl rfl ?_
          refine hq_g 68 11 65 false _ (fun hb => hop_fa fd_114_0 rfl) rfl rfl rfl rfl pre0 rfl rfl rfl ?_
          refine hq_g 69 11 65 false _ (fun hb => hol_load ty_52 rfl (nb rfl) (nb rfl) (fun h => (by rfl))) rfl rfl rfl rfl (pre1 rfl) rfl rfl rfl ?_
          refine hq_g 70 11 65 false _ (fun hb => hop_move rfl) rfl rfl rfl rfl pre0 rfl rfl rfl ?_
          refine hq_g 71 11 65 false _ (fun hb => hop_ia_sl el_52 rfl rfl (by (simp at hb; first | omega | (dsimp only; omega) | (simp <;> omega))) (by (simp at hb; first | omega | (dsimp only; omega) | (simp <;> omega))) (nb rfl)) rfl rfl rfl rfl pre0 rfl rfl rfl ?_
          refine hq_g 72 11 65 false _ (fun hb => hop_fa_fp fd_100_0 rfl (nb rfl)) rfl rfl rfl rfl pre0 rfl rfl rfl ?_
          refine hq_g 73 11 65 false _ (fun hb => HOp.val (v' := intV (ts.getD i default).kind) (hop_load_fp ty_3 rfl (nb rfl) (fun h => (by rfl))) (kind_at (by omega) hkk)) rfl rfl rfl rfl pre0 rfl rfl rfl ?_
          refine hq_g 74 11 65 false _ (fun hb => hop_eql rfl rfl) rfl rfl rfl rfl pre0 rfl rfl rfl ?_
          refine hq_p 75 (hstep_or _ _ rfl rfl rfl) rfl rfl rfl ?_
          refine hf_callR 76 (xs := [_, _, _]) (pre := [(9001, _), (9002, _)]) (ih i him _ g gg o (inB 2 (ts.getD i default).kind) (by omega)) ⟨rfl, ⟨rfl, ⟨rfl, trivial⟩⟩⟩ (preC rfl (preC rfl pre0)) rfl rfl (fun g3 c1 hx1 => ?_)
          (try dsimp only)
          refine hseq_nilU (by rfl) (by simp only [dropUn, slots]; exact rfl) ?_
          refine hq_block ?_
          refine h12 _ ?_
          refine hw_region ?_
          refine hq_ 77 (hop_addi rfl rfl rfl (by omega) (by omega)) rfl rfl pre0 rfl rfl ?_
          refine hq_ 50 (hop_move rfl) rfl rfl pre0 rfl rfl ?_
          refine hseq_nil ?_
          exact hL9 ((i + 1, o ++ wrapS (inB 2 (ts.getD i default).kind) (ts.getD i default).sig, g3)) _ _ (by (try dsimp only); exact ⟨him, by rw [hoo, sigL_take 2 ts i him, List.append_assoc]; rfl⟩) (by (try dsimp only); omega) (hsub_of rfl (Nat.le_refl _) (TmSub.cons rfl (Sb.refl _) (TmSub.cons rfl (Sb.refl _) (TmSub.cons rfl (Sb.refl _) (TmSub.cons rfl (Sb.refl _) (TmSub.cons rfl (Sb.refl _) TmSub.nil))))) (HpSub.cons rfl (OSub.refl _) (HpSub.cons rfl (OSub.refl _) HpSub.nil)))
        · have hr3 := hc3; (try simp only [hcs, Int.reduceToNat] at hc3)
          have hit : i = ts.length := (by omega)
          refine hw_exit ?_
          refine hq_then_exit ?_
          refine hq_then_exit ?_
          refine hq_block_here ?_
          refine hq_block ?_
          refine h4 _ ?_
          refine hw_seq (fun Nh14 h14 => ?_)
          refine hw_region ?_
          refine hq_ 147 (hop_move rfl) rfl rfl pre0 rfl rfl ?_
          refine hseq_nil ?_
          refine h14 _ ?_
          refine hw_cond _ rfl (fun hc8 => ?_) (fun hc8 => ?_)
          · have hr8 := hc8; (try simp only [hcs, Int.reduceToNat] at hc8)
            refine hw_region ?_
            refine hq_ 148 (hop_move rfl) rfl rfl pre0 rfl rfl ?_
            refine hq_ 149 (hop_move rfl) rfl rfl pre0 rfl rfl ?_
            refine hq_ 150 (hop_nilcheck_pt rfl) rfl rfl pre0 rfl rfl ?_
            refine hq_ 151 (hop_fa fd_114_1 rfl) rfl rfl pre0 rfl rfl ?_
            refine hq_ 152 (hol_load ty_33 rfl (nb rfl) (nb rfl) (fun h => (by rfl))) rfl rfl (pre1 rfl) rfl rfl ?_
            refine hq_ 153 (hop_build (hs := [(0, 1, _)]) st_41 rfl rfl ⟨rfl, rfl, rfl, rfl, rfl, trivial⟩) rfl rfl pre0 rfl rfl ?_
            refine hm_1 154 (hop_buildSlice (id := 154) (hs := [_]) ei_33 (nb rfl) rfl (nb rfl) ⟨rfl, rfl, rfl, rfl, trivial⟩) rfl rfl pre0 rfl rfl (c' := c + 1) rfl ?_
            refine hm_1 155 (hol_append ei_33 (nb rfl) rfl (by omega) (nb rfl) (srl_os0 rfl (nb rfl)) (by omega) rfl) rfl rfl (preC rfl (pre1 rfl)) rfl rfl (c' := c + 2) rfl ?_
            refine hq_ 156 (hop_nilcheck_pt rfl) rfl rfl pre0 rfl rfl ?_
            refine hq_ 157 (hop_fa fd_114_1 rfl) rfl rfl pre0 rfl rfl ?_
            refine hm_s1 (hol_store ty_33 rfl rfl rfl rfl (nb rfl) (nb rfl) (nb rfl)) rfl rfl (pre1 rfl) (c' := c + 3) rfl ?_
            refine hseq_nil ?_
            refine hq_fall ?_
            refine hf_retR0 ok hX RetS.one rfl  [] rfl pre0 ((c + 1)) (trivial) (by rfl) (by rfl) ((by first | exact .fz _ _ (.imm _) | exact .os _ _ _ _ _ rfl rfl | exact .pt _ _ _ _ _ rfl rfl | exact .nps _ _ _ rfl rfl | (dsimp only; exact .fz _ _ Frz.fz) | exact .fz _ _ (.tup 0 _ _ (fun i hi => absurd hi (Nat.not_lt_zero _))))) ?_
            exact ⟨⟨_, rfl, okz2 (.fz _ _ (show Fz [] (ptsV e) (ptsV e) from Frz.fz)) (kz_os rfl rfl (by rw [hw1 hc8, hoo, hit, List.take_length, ho]; simp [T.sig]; omega))⟩, ⟨⟨_, rfl, okz_sgn (x := (⟨3, 0, 0, 0, []⟩ : Sg)) (by rw [hw1 hc8, hoo, hit, List.take_length, ho]; simp [T.sig])⟩, trivial⟩⟩
          · have hr8 := hc8; (try simp only [hcs, Int.reduceToNat] at hc8)
            exfalso; rw [hc0] at hr8; cases hr8
      · have hr2 := hc2; (try simp only [hcs, Int.reduceToNat] at hc2)
        exfalso; simp at hr2
  · have hr0 := hc0; (try simp only [hcs, Int.reduceToNat] at hc0)
    have hlw := congrArg List.length (hw0 hc0)
    refine hw_skip ?_
    refine h1 _ ?_
    refine hw_seq (fun Nh15 h15 => ?_)
    refine hw_region ?_
    refine hq_ 22 (hop_move rfl) rfl rfl pre0 rfl rfl ?_
    refine hq_ 23 (hop_nilcheck_pt rfl) rfl rfl pre0 rfl rfl ?_
    refine hq_ 24 (hop_fa fd_114_0 rfl) rfl rfl pre0 rfl rfl ?_
    refine hq_ 25 (hol_load ty_52 rfl (nb rfl) (nb rfl) (fun h => (by rfl))) rfl rfl (pre1 rfl) rfl rfl ?_
    refine hq_ 26 (hop_move rfl) rfl rfl pre0 rfl rfl ?_
    refine hq_ 27 (hop_ia_sl el_52 rfl rfl (by omega) (by omega) (nb rfl)) rfl rfl pre0 rfl rfl ?_
    refine hq_ 28 (HOp.val (v' := ptH (⟨2, 0, 0, [], rootsL b ts⟩)) (hop_load_fp ty_100 rfl (nb rfl) (fun h => (by cases h))) (pt_at (by omega) htop.1)) rfl rfl pre0 rfl rfl ?_
    refine hm_1 6 (hop_alloc (id := 6) (sz := 5) zc_100 rfl rfl (nb rfl) (nb rfl)) rfl rfl pre0 rfl rfl (c' := c + 1) rfl ?_
    refine hm_s1 (hol_storeW ty_100 rfl rfl rfl rfl) rfl rfl (pre1 rfl) (c' := c + 2) rfl ?_
    refine hseq_nil ?_
    refine h15 _ ?_
    refine hw_seq (fun Nh16 h16 => ?_)
    refine hw_seq (fun Nh17 h17 => ?_)
    refine hw_region ?_
    refine hq_ 29 (hop_fa fd_100_0 rfl) rfl rfl pre0 rfl rfl ?_
    refine hq_ 30 (hol_load ty_3 rfl (nb rfl) (nb rfl) (fun h => (by rfl))) rfl rfl (pre1 rfl) rfl rfl ?_
    refine hseq_nil ?_
    refine h17 _ ?_
    refine hw_block ?_
    refine hw_seq (fun Nh18 h18 => ?_)
    refine hw_region ?_
    refine hq_ 32 (hop_eql rfl rfl) rfl rfl pre0 rfl rfl ?_
    refine hq_ 31 (hop_assign rfl) rfl rfl pre0 rfl rfl ?_
    refine hseq_nil ?_
    refine h18 _ ?_
    refine hw_cond _ rfl (fun hc1 => ?_) (fun hc1 => ?_)
    · have hr1 := hc1; (try simp only [hcs, Int.reduceToNat] at hc1)
      exfalso; simp at hr1
    · have hr1 := hc1; (try simp only [hcs, Int.reduceToNat] at hc1)
      refine hw_seq (fun Nh19 h19 => ?_)
      refine hw_region ?_
      refine hq_ 46 (hop_eql rfl rfl) rfl rfl pre0 rfl rfl ?_
      refine hq_ 45 (hop_assign rfl) rfl rfl pre0 rfl rfl ?_
      refine hseq_nil ?_
      refine h19 _ ?_
      refine hw_cond _ rfl (fun hc2 => ?_) (fun hc2 => ?_)
      · have hr2 := hc2; (try simp only [hcs, Int.reduceToNat] at hc2)
        refine hw_seq (fun Nh20 h20 => ?_)
        obtain ⟨o1, ho⟩ : ∃ o, o = out := ⟨_, rfl⟩; rw [← ho]; have hlo : o1.length = out.length := (by rw [ho]); obtain ⟨gi, hgi⟩ : ∃ x, x = g2 := ⟨_, rfl⟩; rw [← hgi]
        refine hw_region ?_
        refine hq_ 47 (hop_fa fd_100_4 rfl) rfl rfl pre0 rfl rfl ?_
        refine hq_ 48 (hol_load ty_98 rfl (nb rfl) (nb rfl) (fun h => (by rfl))) rfl rfl (pre1 rfl) rfl rfl ?_
        refine hq_ 49 (hop_len_sl (T := 98) rfl (elOf_spec el_98).1 rfl) rfl rfl pre0 rfl rfl ?_
        refine hq_ 50 (hop_move rfl) rfl rfl pre0 rfl rfl ?_
        refine hseq_nil ?_
        refine h20 _ ?_
        refine hw_block ?_
        refine hw_loopc (α := Nat × List Sg × Nat) (fun x c => ⟨158, [(0, .v (.pt 9001 g 0 0)), (2, .v (boolV bin)), (48, .v (kidsV (rootsL b ts))), (49, .v (intV (rootsL b ts).length)), (50, .v (intV x.1))], [(9001, shO g e x.2.2 x.2.1.length), (9002, sgsO x.2.2 x.2.1)], c⟩) (fun x => x.1 ≤ ts.length ∧ x.2.1 = o1 ++ T.sigL 2 true (ts.take x.1)) (fun x => ts.length - x.1) ((0, o1, gi)) (by exact ⟨Nat.zero_le _, by simp [T.sigL]⟩) (hsub_of rfl (Nat.le_refl _) (TmSub.cons rfl (Sb.refl _) (TmSub.cons rfl (Sb.refl _) (TmSub.cons rfl (Sb.refl _) (TmSub.cons rfl (Sb.refl _) (TmSub.cons rfl (Sb.refl _) TmSub.nil))))) (HpSub.cons rfl (OSub.refl _) (HpSub.cons rfl (OSub.refl _) HpSub.nil))) (fun x c hx NhL21 hL21 => ?_)
        revert hx hL21; obtain ⟨i, o, gg⟩ := x; intro hx hL21; dsimp only at hx hL21 ⊢
        obtain ⟨hi, hoo⟩ := hx
        have hol := kids_len hok (i := i) (k := 2) hi; have hol2 : o.length = o1.length + (T.sigL 2 true (ts.take i)).length := (by rw [hoo, List.length_append])
        refine hw_seq (fun Nh22 h22 => ?_)
        refine hw_region ?_
        refine hq_ 51 (hop_lss rfl rfl) rfl rfl pre0 rfl rfl ?_
        refine hseq_nil ?_
        refine h22 _ ?_
        refine hw_seq (fun Nh23 h23 => ?_)
        refine hw_cond _ rfl (fun hc3 => ?_) (fun hc3 => ?_)
        · have hr3 := hc3; (try simp only [hcs, Int.reduceToNat] at hc3)
          have him : i < ts.length := (by omega); have hka := at_kid hat him; have hkt := at_top hka; have hkk : (e.getD (b + T.sizeL (ts.take i) + (ts.getD i default).size - 1) default).kind = (ts.getD i default).kind := (by rw [hkt.1, top_kind]); have hks := (ts.getD i default).size_pos; have hkn := kid_next_len (k := 2) him
          refine hw_skip ?_
          refine h23 _ ?_
          refine hw_seq (fun Nh24 h24 => ?_)
          refine hw_block ?_
          refine hw_seq (fun Nh25 h25 => ?_)
          refine hw_region ?_
          refine hq_ 52 (hop_ia_sl el_98 rfl rfl (by omega) (by omega) (nb rfl)) rfl rfl pre0 rfl rfl ?_
          refine hq_ 53 (HOp.val (v' := intV ((b + T.sizeL (ts.take i) + (ts.getD i default).size - 1 : Nat) : Int)) (hop_load_fp ty_3 rfl (nb rfl) (fun h => (by rfl))) (by exact kids_at (i := i) (by omega) (by rw [roots_get ts b i him]; unfold T.root; omega))) rfl rfl pre0 rfl rfl ?_
          refine hq_ 8 (hop_assign rfl) rfl rfl pre0 rfl rfl ?_
          refine hseq_nil ?_
          refine h25 _ ?_
          refine hw_region ?_
          refine hq_ 54 (hop_move rfl) rfl rfl pre0 rfl rfl ?_
          refine hq_ 55 (hop_move rfl) rfl rfl pre0 rfl rfl ?_
          refine hq_ 56 (hop_move rfl) rfl rfl pre0 rfl rfl ?_
          refine hq_ 57 (hop_nilcheck_pt rfl) rfl rfl pre0 rfl rfl ?_
          refine hq_ 58 (hop_fa fd_114_0 rfl) rfl rfl pre0 rfl rfl ?_
          refine hq_ 59 (hol_load ty_52 rfl (nb rfl) (nb rfl) (fun h => (by rfl))) rfl rfl (pre1 rfl) rfl rfl ?_
          refine hq_ 60 (hop_move rfl) rfl rfl pre0 rfl rfl ?_
          refine hq_ 61 (hop_ia_sl el_52 rfl rfl (by omega) (by omega) (nb rfl)) rfl rfl pre0 rfl rfl ?_
          refine hq_ 62 (hop_fa_fp fd_100_0 rfl (nb rfl)) rfl rfl pre0 rfl rfl ?_
          refine hq_ 63 (HOp.val (v' := intV (ts.getD i default).kind) (hop_load_fp ty_3 rfl (nb rfl) (fun h => (by rfl))) (kind_at (by omega) hkk)) rfl rfl pre0 rfl rfl ?_
          refine hq_ 64 (hop_eql rfl rfl) rfl rfl pre0 rfl rfl ?_
          refine hq_ 65 (hop_move rfl) rfl rfl pre0 rfl rfl ?_
          refine hq_g 66 11 65 false _ (fun hb => hop_move rfl) rfl rfl rfl rfl pre0 rfl rfl rfl ?_
          refine hq_g 67 11 65 false _ (fun hb => hop_nilcheck_pt rfl) rfl rfl rfl rfl pre0 rfl rfl rfl ?_
          refine hq_g 68 11 65 false _ (fun hb => hop_fa fd_114_0 rfl) rfl rfl rfl rfl pre0 rfl rfl rfl ?_
          refine hq_g 69 11 65 false _ (fun hb => hol_load ty_52 rfl (nb rfl) (nb rfl) (fun h => (by rfl))) rfl rfl rfl rfl (pre1 rfl) rfl rfl rfl ?_
          refine hq_g 70 11 65 false _ (fun hb => hop_move rfl) rfl rfl rfl rfl pre0 rfl rfl rfl ?_
          refine hq_g 71 11 65 false _ (fun hb => hop_ia_sl el_52 rfl rfl (by (simp at hb; first | omega | (dsimp only; omega) | (simp <;> omega))) (by (simp at hb; first | omega | (dsimp only; omega) | (simp <;> omega))) (nb rfl)) rfl rfl rfl rfl pre0 rfl rfl rfl ?_
          refine hq_g 72 11 65 false _ (fun hb => hop_fa_fp fd_100_0 rfl (nb rfl)) rfl rfl rfl rfl pre0 rfl rfl rfl ?_
          refine hq_g 73 11 65 false _ (fun hb => HOp.val (v' := intV (ts.getD i default).kind) (hop_load_fp ty_3 rfl (nb rfl) (fun h => (by rfl))) (kind_at (by omega) hkk)) rfl rfl rfl rfl pre0 rfl rfl rfl ?_
          refine hq_g 74 11 65 false _ (fun hb => hop_eql rfl rfl) rfl rfl rfl rfl pre0 rfl rfl rfl ?_
          refine hq_p 75 (hstep_or _ _ rfl rfl rfl) rfl rfl rfl ?_
          refine hf_callR 76 (xs := [_, _, _]) (pre := [(9001, _), (9002, _)]) (ih i him _ g gg o (inB 2 (ts.getD i default).kind) (by omega)) ⟨rfl, ⟨rfl, ⟨rfl, trivial⟩⟩⟩ (preC rfl (preC rfl pre0)) rfl rfl (fun g3 c2 hx2 => ?_)
          (try dsimp only)
          refine hseq_nilU (by rfl) (by simp only [dropUn, slots]; exact rfl) ?_
          refine hq_block ?_
          refine h24 _ ?_
          refine hw_region ?_
          refine hq_ 77 (hop_addi rfl rfl rfl (by omega) (by omega)) rfl rfl pre0 rfl rfl ?_
          refine hq_ 50 (hop_move rfl) rfl rfl pre0 rfl rfl ?_
          refine hseq_nil ?_
          exact hL21 ((i + 1, o ++ wrapS (inB 2 (ts.getD i default).kind) (ts.getD i default).sig, g3)) _ _ (by (try dsimp only); exact ⟨him, by rw [hoo, sigL_take 2 ts i him, List.append_assoc]; rfl⟩) (by (try dsimp only); omega) (hsub_of rfl (Nat.le_refl _) (TmSub.cons rfl (Sb.refl _) (TmSub.cons rfl (Sb.refl _) (TmSub.cons rfl (Sb.refl _) (TmSub.cons rfl (Sb.refl _) (TmSub.cons rfl (Sb.refl _) TmSub.nil))))) (HpSub.cons rfl (OSub.refl _) (HpSub.cons rfl (OSub.refl _) HpSub.nil)))
        · have hr3 := hc3; (try simp only [hcs, Int.reduceToNat] at hc3)
          have hit : i = ts.length := (by omega)
          refine hw_exit ?_
          refine hq_then_exit ?_
          refine hq_then_exit ?_
          refine hq_block_here ?_
          refine hq_block ?_
          refine h16 _ ?_
          refine hw_seq (fun Nh26 h26 => ?_)
          refine hw_region ?_
          refine hq_ 147 (hop_move rfl) rfl rfl pre0 rfl rfl ?_
          refine hseq_nil ?_
          refine h26 _ ?_
          refine hw_cond _ rfl (fun hc8 => ?_) (fun hc8 => ?_)
          · have hr8 := hc8; (try simp only [hcs, Int.reduceToNat] at hc8)
            exfalso; rw [hc0] at hr8; cases hr8
          · have hr8 := hc8; (try simp only [hcs, Int.reduceToNat] at hc8)
            refine hw_skip ?_
            refine hq_fall ?_
            refine hf_retR0 ok hX RetS.one rfl  [] rfl pre0 (gg) (trivial) (by rfl) (by rfl) ((by first | exact .fz _ _ (.imm _) | exact .os _ _ _ _ _ rfl rfl | exact .pt _ _ _ _ _ rfl rfl | exact .nps _ _ _ rfl rfl | (dsimp only; exact .fz _ _ Frz.fz) | exact .fz _ _ (.tup 0 _ _ (fun i hi => absurd hi (Nat.not_lt_zero _))))) ?_
            exact ⟨⟨_, rfl, okz_sh rfl rfl (by rw [hw0 hc8, hoo, hit, List.take_length, ho]; rfl)⟩, ⟨⟨_, rfl, okz_sgs (by rw [hw0 hc8, hoo, hit, List.take_length, ho]; rfl)⟩, trivial⟩⟩
      · have hr2 := hc2; (try simp only [hcs, Int.reduceToNat] at hc2)
        exfalso; simp at hr2
theorem lay_choice (e : List Pt) (b : Nat) (he : e.length ≤ 100000) (ts : List T) (hok : T.okL ts = true) (hts : ts.length ≤ 100000) (ih : ∀ i, i < ts.length → LayC e (b + T.sizeL (ts.take i)) (ts.getD i default)) (hat : AtP e b (T.flat b (T.many 3 ts))) : LayC e b (T.many 3 ts) := by
  intro c g g2 out bin hb
  have htop := at_top hat
  have hwl := wrap_len bin (T.many 3 ts).sig
  have hw1 : bin = true → wrapS bin (T.many 3 ts).sig = [(⟨2, 0, 0, 0, []⟩ : Sg)] ++ (T.many 3 ts).sig ++ [(⟨3, 0, 0, 0, []⟩ : Sg)] := fun h => by rw [h]; rfl
  have hw0 : bin = false → wrapS bin (T.many 3 ts).sig = (T.many 3 ts).sig := fun h => by rw [h]; rfl
  have hlw1 : bin = true → (wrapS bin (T.many 3 ts).sig).length = (T.many 3 ts).sig.length + 2 := fun h => by rw [hw1 h, List.length_append, List.length_append]; show 1 + _ + 1 = _; omega
  have hsp := T.size_pos (T.many 3 ts)
  have hrl := rootsL_len ts b
  have hsl : (T.many 3 ts).sig.length = (T.sigL 3 true ts).length := rfl
  refine hfun_of Tryd.func70 rfl (by kernel_rfl) _ _ _ _ rfl 158 rfl rfl (fun X ok hX => ?_)
  refine hw_seq (fun Nh1 h1 => ?_)
  refine hw_seq (fun Nh2 h2 => ?_)
  refine hw_region ?_
  refine hq_ 11 (hop_move rfl) rfl rfl pre0 rfl rfl ?_
  refine hseq_nil ?_
  refine h2 _ ?_
  refine hw_cond _ rfl (fun hc0 => ?_) (fun hc0 => ?_)
  · have hr0 := hc0; (try simp only [hcs, Int.reduceToNat] at hc0)
    have ho1 : (out ++ [(⟨2, 0, 0, 0, []⟩ : Sg)]).length = out.length + 1 := (by simp); have hlw := hlw1 hc0
    refine hw_region ?_
    refine hq_ 12 (hop_move rfl) rfl rfl pre0 rfl rfl ?_
    refine hq_ 13 (hop_move rfl) rfl rfl pre0 rfl rfl ?_
    refine hq_ 14 (hop_nilcheck_pt rfl) rfl rfl pre0 rfl rfl ?_
    refine hq_ 15 (hop_fa fd_114_1 rfl) rfl rfl pre0 rfl rfl ?_
    refine hq_ 16 (hol_load ty_33 rfl (nb rfl) (nb rfl) (fun h => (by rfl))) rfl rfl (pre1 rfl) rfl rfl ?_
    refine hq_ 17 (hop_build (hs := [(0, 1, _)]) st_41 rfl rfl ⟨rfl, rfl, rfl, rfl, rfl, trivial⟩) rfl rfl pre0 rfl rfl ?_
    refine hm_1 18 (hop_buildSlice (id := 18) (hs := [_]) ei_33 (nb rfl) rfl (nb rfl) ⟨rfl, rfl, rfl, rfl, trivial⟩) rfl rfl pre0 rfl rfl (c' := c + 1) rfl ?_
    refine hm_1 19 (hol_append ei_33 (nb rfl) rfl (by omega) (nb rfl) (srl_os0 rfl (nb rfl)) (by omega) rfl) rfl rfl (preC rfl (pre1 rfl)) rfl rfl (c' := c + 2) rfl ?_
    refine hq_ 20 (hop_nilcheck_pt rfl) rfl rfl pre0 rfl rfl ?_
    refine hq_ 21 (hop_fa fd_114_1 rfl) rfl rfl pre0 rfl rfl ?_
    refine hm_s1 (hol_store ty_33 rfl rfl rfl rfl (nb rfl) (nb rfl) (nb rfl)) rfl rfl (pre1 rfl) (c' := c + 3) rfl ?_
    refine hseq_nil ?_
    refine h1 _ ?_
    refine hw_seq (fun Nh3 h3 => ?_)
    refine (hsub_ob 9001 (shO g e (c + 1) (out ++ [(⟨2, 0, 0, 0, []⟩ : Sg)]).length) rfl (by exact osub2 (.refl _) (sb_os (by first | (simp; done) | (simp; omega))))).wp ?_; refine (hsub_ob 9002 (sgsO (c + 1) (out ++ [(⟨2, 0, 0, 0, []⟩ : Sg)])) rfl (by exact (osub_snoc (enc := sgF) (d := default) (x := (⟨2, 0, 0, 0, []⟩ : Sg)) (out := out) rfl (fun i j _ _ => .refl _) (sb_sg5 (.refl _) (.refl _) (.refl _) (.refl _) (.refl _))))).wp ?_
    refine hw_region ?_
    refine hq_ 22 (hop_move rfl) rfl rfl pre0 rfl rfl ?_
    refine hq_ 23 (hop_nilcheck_pt rfl) rfl rfl pre0 rfl rfl ?_
    refine hq_ 24 (hop_fa fd_114_0 rfl) rfl rfl pre0 rfl rfl ?_
    refine hq_ 25 (hol_load ty_52 rfl (nb rfl) (nb rfl) (fun h => (by rfl))) rfl rfl (pre1 rfl) rfl rfl ?_
    refine hq_ 26 (hop_move rfl) rfl rfl pre0 rfl rfl ?_
    refine hq_ 27 (hop_ia_sl el_52 rfl rfl (by omega) (by omega) (nb rfl)) rfl rfl pre0 rfl rfl ?_
    refine hq_ 28 (HOp.val (v' := ptH (⟨3, 0, 0, [], rootsL b ts⟩)) (hop_load_fp ty_100 rfl (nb rfl) (fun h => (by cases h))) (pt_at (by omega) htop.1)) rfl rfl pre0 rfl rfl ?_
    refine hm_1 6 (hop_alloc (id := 6) (sz := 5) zc_100 rfl rfl (nb rfl) (nb rfl)) rfl rfl pre0 rfl rfl (c' := c + 4) rfl ?_
    refine hm_s1 (hol_storeW ty_100 rfl rfl rfl rfl) rfl rfl (pre1 rfl) (c' := c + 5) rfl ?_
    refine hseq_nil ?_
    refine h3 _ ?_
    refine hw_seq (fun Nh4 h4 => ?_)
    refine hw_seq (fun Nh5 h5 => ?_)
    refine hw_region ?_
    refine hq_ 29 (hop_fa fd_100_0 rfl) rfl rfl pre0 rfl rfl ?_
    refine hq_ 30 (hol_load ty_3 rfl (nb rfl) (nb rfl) (fun h => (by rfl))) rfl rfl (pre1 rfl) rfl rfl ?_
    refine hseq_nil ?_
    refine h5 _ ?_
    refine hw_block ?_
    refine hw_seq (fun Nh6 h6 => ?_)
    refine hw_region ?_
    refine hq_ 32 (hop_eql rfl rfl) rfl rfl pre0 rfl rfl ?_
    refine hq_ 31 (hop_assign rfl) rfl rfl pre0 rfl rfl ?_
    refine hseq_nil ?_
    refine h6 _ ?_
    refine hw_cond _ rfl (fun hc1 => ?_) (fun hc1 => ?_)
    · have hr1 := hc1; (try simp only [hcs, Int.reduceToNat] at hc1)
      exfalso; simp at hr1
    · have hr1 := hc1; (try simp only [hcs, Int.reduceToNat] at hc1)
      refine hw_seq (fun Nh7 h7 => ?_)
      refine hw_region ?_
      refine hq_ 46 (hop_eql rfl rfl) rfl rfl pre0 rfl rfl ?_
      refine hq_ 45 (hop_assign rfl) rfl rfl pre0 rfl rfl ?_
      refine hseq_nil ?_
      refine h7 _ ?_
      refine hw_cond _ rfl (fun hc2 => ?_) (fun hc2 => ?_)
      · have hr2 := hc2; (try simp only [hcs, Int.reduceToNat] at hc2)
        exfalso; simp at hr2
      · have hr2 := hc2; (try simp only [hcs, Int.reduceToNat] at hc2)
        refine hw_seq (fun Nh8 h8 => ?_)
        refine hw_region ?_
        refine hq_ 79 (hop_eql rfl rfl) rfl rfl pre0 rfl rfl ?_
        refine hq_ 78 (hop_assign rfl) rfl rfl pre0 rfl rfl ?_
        refine hseq_nil ?_
        refine h8 _ ?_
        refine hw_cond _ rfl (fun hc4 => ?_) (fun hc4 => ?_)
        · have hr4 := hc4; (try simp only [hcs, Int.reduceToNat] at hc4)
          refine hw_seq (fun Nh9 h9 => ?_)
          obtain ⟨o1, ho⟩ : ∃ o, o = (out ++ [(⟨2, 0, 0, 0, []⟩ : Sg)]) := ⟨_, rfl⟩; rw [← ho]; have hlo : o1.length = out.length + 1 := (by rw [ho]; exact ho1); obtain ⟨gi, hgi⟩ : ∃ x, x = c + 1 := ⟨_, rfl⟩; rw [← hgi]
          refine hw_region ?_
          refine hq_ 80 (hop_fa fd_100_4 rfl) rfl rfl pre0 rfl rfl ?_
          refine hq_ 81 (hol_load ty_98 rfl (nb rfl) (nb rfl) (fun h => (by rfl))) rfl rfl (pre1 rfl) rfl rfl ?_
          refine hq_ 82 (hop_len_sl (T := 98) rfl (elOf_spec el_98).1 rfl) rfl rfl pre0 rfl rfl ?_
          refine hq_ 83 (hop_move rfl) rfl rfl pre0 rfl rfl ?_
          refine hseq_nil ?_
          refine h9 _ ?_
          refine hw_block ?_
          refine hw_loopc (α := Nat × List Sg × Nat) (fun x c => ⟨158, [(0, .v (.pt 9001 g 0 0)), (2, .v (boolV bin)), (81, .v (kidsV (rootsL b ts))), (82, .v (intV (rootsL b ts).length)), (83, .v (intV x.1))], [(9001, shO g e x.2.2 x.2.1.length), (9002, sgsO x.2.2 x.2.1)], c⟩) (fun x => x.1 ≤ ts.length ∧ x.2.1 = o1 ++ T.sigL 3 true (ts.take x.1)) (fun x => ts.length - x.1) ((0, o1, gi)) (by exact ⟨Nat.zero_le _, by simp [T.sigL]⟩) (hsub_of rfl (Nat.le_refl _) (TmSub.cons rfl (Sb.refl _) (TmSub.cons rfl (Sb.refl _) (TmSub.cons rfl (Sb.refl _) (TmSub.cons rfl (Sb.refl _) (TmSub.cons rfl (Sb.refl _) TmSub.nil))))) (HpSub.cons rfl (OSub.refl _) (HpSub.cons rfl (OSub.refl _) HpSub.nil))) (fun x c hx NhL10 hL10 => ?_)
          revert hx hL10; obtain ⟨i, o, gg⟩ := x; intro hx hL10; dsimp only at hx hL10 ⊢
          obtain ⟨hi, hoo⟩ := hx
          have hol := kids_len hok (i := i) (k := 3) hi; have hol2 : o.length = o1.length + (T.sigL 3 true (ts.take i)).length := (by rw [hoo, List.length_append])
          refine hw_seq (fun Nh11 h11 => ?_)
          refine hw_region ?_
          refine hq_ 84 (hop_lss rfl rfl) rfl rfl pre0 rfl rfl ?_
          refine hseq_nil ?_
          refine h11 _ ?_
          refine hw_seq (fun Nh12 h12 => ?_)
          refine hw_cond _ rfl (fun hc5 => ?_) (fun hc5 => ?_)
          · have hr5 := hc5; (try simp only [hcs, Int.reduceToNat] at hc5)
            have him : i < ts.length := (by omega); have hka := at_kid hat him; have hkt := at_top hka; have hkk : (e.getD (b + T.sizeL (ts.take i) + (ts.getD i default).size - 1) default).kind = (ts.getD i default).kind := (by rw [hkt.1, top_kind]); have hks := (ts.getD i default).size_pos; have hkn := kid_next_len (k := 3) him
            refine hw_skip ?_
            refine h12 _ ?_
            refine hw_seq (fun Nh13 h13 => ?_)
            refine hw_block ?_
            refine hw_seq (fun Nh14 h14 => ?_)
            refine hw_region ?_
            refine hq_ 85 (hop_move rfl) rfl rfl pre0 rfl rfl ?_
            refine hq_ 86 (hop_ia_sl el_98 rfl rfl (by omega) (by omega) (nb rfl)) rfl rfl pre0 rfl rfl ?_
            refine hq_ 87 (HOp.val (v' := intV ((b + T.sizeL (ts.take i) + (ts.getD i default).size - 1 : Nat) : Int)) (hop_load_fp ty_3 rfl (nb rfl) (fun h => (by rfl))) (by exact kids_at (i := i) (by omega) (by rw [roots_get ts b i him]; unfold T.root; omega))) rfl rfl pre0 rfl rfl ?_
            refine hq_ 9 (hop_assign rfl) rfl rfl pre0 rfl rfl ?_
            refine hq_ 10 (hop_assign rfl) rfl rfl pre0 rfl rfl ?_
            refine hseq_nil ?_
            refine h14 _ ?_
            refine hw_seq (fun Nh15 h15 => ?_)
            refine hw_seq (fun Nh16 h16 => ?_)
            refine hw_region ?_
            refine hq_ 88 (hop_move rfl) rfl rfl pre0 rfl rfl ?_
            refine hq_ 89 (hop_gtr rfl rfl) rfl rfl pre0 rfl rfl ?_
            refine hseq_nil ?_
            refine h16 _ ?_
            refine hw_cond _ rfl (fun hc6 => ?_) (fun hc6 => ?_)
            · have hr6 := hc6; (try simp only [hcs, Int.reduceToNat] at hc6)
              have hor : (orS 3 (decide (i = 0))).length = 1 := (by rw [decide_eq_false (show ¬ i = 0 by omega)]; rfl); have hoa : (o ++ [(⟨4, 0, 0, 0, []⟩ : Sg)]).length = o.length + 1 := (by simp)
              refine hw_region ?_
              refine hq_ 90 (hop_move rfl) rfl rfl pre0 rfl rfl ?_
              refine hq_ 91 (hop_move rfl) rfl rfl pre0 rfl rfl ?_
              refine hq_ 92 (hop_nilcheck_pt rfl) rfl rfl pre0 rfl rfl ?_
              refine hq_ 93 (hop_fa fd_114_1 rfl) rfl rfl pre0 rfl rfl ?_
              refine hq_ 94 (hol_load ty_33 rfl (nb rfl) (nb rfl) (fun h => (by rfl))) rfl rfl (pre1 rfl) rfl rfl ?_
              refine hq_ 95 (hop_build (hs := [(0, 1, _)]) st_41 rfl rfl ⟨rfl, rfl, rfl, rfl, rfl, trivial⟩) rfl rfl pre0 rfl rfl ?_
              refine hm_1 96 (hop_buildSlice (id := 96) (hs := [_]) ei_33 (nb rfl) rfl (nb rfl) ⟨rfl, rfl, rfl, rfl, trivial⟩) rfl rfl pre0 rfl rfl (c' := c + 1) rfl ?_
              refine hm_1 97 (hol_append ei_33 (nb rfl) rfl (by omega) (nb rfl) (srl_os0 rfl (nb rfl)) (by omega) rfl) rfl rfl (preC rfl (pre1 rfl)) rfl rfl (c' := c + 2) rfl ?_
              refine hq_ 98 (hop_nilcheck_pt rfl) rfl rfl pre0 rfl rfl ?_
              refine hq_ 99 (hop_fa fd_114_1 rfl) rfl rfl pre0 rfl rfl ?_
              refine hm_s1 (hol_store ty_33 rfl rfl rfl rfl (nb rfl) (nb rfl) (nb rfl)) rfl rfl (pre1 rfl) (c' := c + 3) rfl ?_
              refine hseq_nil ?_
              refine h15 _ ?_
              refine (hsub_ob 9001 (shO g e (c + 1) (o ++ [(⟨4, 0, 0, 0, []⟩ : Sg)]).length) rfl (by exact osub2 (.refl _) (sb_os (by first | (simp; done) | (simp; omega))))).wp ?_; refine (hsub_ob 9002 (sgsO (c + 1) (o ++ [(⟨4, 0, 0, 0, []⟩ : Sg)])) rfl (by exact (osub_snoc (enc := sgF) (d := default) (x := (⟨4, 0, 0, 0, []⟩ : Sg)) (out := o) rfl (fun i j _ _ => .refl _) (sb_sg5 (.refl _) (.refl _) (.refl _) (.refl _) (.refl _))))).wp ?_
              refine hw_region ?_
              refine hq_ 100 (hop_move rfl) rfl rfl pre0 rfl rfl ?_
              refine hq_ 101 (hop_move rfl) rfl rfl pre0 rfl rfl ?_
              refine hq_ 102 (hop_move rfl) rfl rfl pre0 rfl rfl ?_
              refine hq_ 103 (hop_nilcheck_pt rfl) rfl rfl pre0 rfl rfl ?_
              refine hq_ 104 (hop_fa fd_114_0 rfl) rfl rfl pre0 rfl rfl ?_
              refine hq_ 105 (hol_load ty_52 rfl (nb rfl) (nb rfl) (fun h => (by rfl))) rfl rfl (pre1 rfl) rfl rfl ?_
              refine hq_ 106 (hop_move rfl) rfl rfl pre0 rfl rfl ?_
              refine hq_ 107 (hop_ia_sl el_52 rfl rfl (by omega) (by omega) (nb rfl)) rfl rfl pre0 rfl rfl ?_
              refine hq_ 108 (hop_fa_fp fd_100_0 rfl (nb rfl)) rfl rfl pre0 rfl rfl ?_
              refine hq_ 109 (HOp.val (v' := intV (ts.getD i default).kind) (hop_load_fp ty_3 rfl (nb rfl) (fun h => (by rfl))) (kind_at (by omega) hkk)) rfl rfl pre0 rfl rfl ?_
              refine hq_ 110 (hop_eql rfl rfl) rfl rfl pre0 rfl rfl ?_
              refine hf_callR 111 (xs := [_, _, _]) (pre := [(9001, _), (9002, _)]) (ih i him _ g (c + 1) (o ++ [(⟨4, 0, 0, 0, []⟩ : Sg)]) (inB 3 (ts.getD i default).kind) (by omega)) ⟨rfl, ⟨rfl, ⟨rfl, trivial⟩⟩⟩ (preC rfl (preC rfl pre0)) rfl rfl (fun g3 c1 hx1 => ?_)
              (try dsimp only)
              refine hseq_nil ?_
              refine hq_block ?_
              refine h13 _ ?_
              refine hw_region ?_
              refine hq_ 112 (hop_addi rfl rfl rfl (by omega) (by omega)) rfl rfl pre0 rfl rfl ?_
              refine hq_ 83 (hop_move rfl) rfl rfl pre0 rfl rfl ?_
              refine hseq_nil ?_
              exact hL10 ((i + 1, (o ++ [(⟨4, 0, 0, 0, []⟩ : Sg)]) ++ wrapS (inB 3 (ts.getD i default).kind) (ts.getD i default).sig, g3)) _ _ (by (try dsimp only); exact ⟨him, by rw [hoo, sigL_take 3 ts i him, decide_eq_false (show ¬ i = 0 by omega)]; simp [orS]⟩) (by (try dsimp only); omega) (hsub_of rfl (Nat.le_refl _) (TmSub.cons rfl (Sb.refl _) (TmSub.cons rfl (Sb.refl _) (TmSub.cons rfl (Sb.refl _) (TmSub.cons rfl (Sb.refl _) (TmSub.cons rfl (Sb.refl _) TmSub.nil))))) (HpSub.cons rfl (OSub.refl _) (HpSub.cons rfl (OSub.refl _) HpSub.nil)))
            · have hr6 := hc6; (try simp only [hcs, Int.reduceToNat] at hc6)
              refine hw_skip ?_
              refine h15 _ ?_
              refine hw_region ?_
              refine hq_ 100 (hop_move rfl) rfl rfl pre0 rfl rfl ?_
              refine hq_ 101 (hop_move rfl) rfl rfl pre0 rfl rfl ?_
              refine hq_ 102 (hop_move rfl) rfl rfl pre0 rfl rfl ?_
              refine hq_ 103 (hop_nilcheck_pt rfl) rfl rfl pre0 rfl rfl ?_
              refine hq_ 104 (hop_fa fd_114_0 rfl) rfl rfl pre0 rfl rfl ?_
              refine hq_ 105 (hol_load ty_52 rfl (nb rfl) (nb rfl) (fun h => (by rfl))) rfl rfl (pre1 rfl) rfl rfl ?_
              refine hq_ 106 (hop_move rfl) rfl rfl pre0 rfl rfl ?_
              refine hq_ 107 (hop_ia_sl el_52 rfl rfl (by omega) (by omega) (nb rfl)) rfl rfl pre0 rfl rfl ?_
              refine hq_ 108 (hop_fa_fp fd_100_0 rfl (nb rfl)) rfl rfl pre0 rfl rfl ?_
              refine hq_ 109 (HOp.val (v' := intV (ts.getD i default).kind) (hop_load_fp ty_3 rfl (nb rfl) (fun h => (by rfl))) (kind_at (by omega) hkk)) rfl rfl pre0 rfl rfl ?_
              refine hq_ 110 (hop_eql rfl rfl) rfl rfl pre0 rfl rfl ?_
              refine hf_callR 111 (xs := [_, _, _]) (pre := [(9001, _), (9002, _)]) (ih i him _ g gg o (inB 3 (ts.getD i default).kind) (by omega)) ⟨rfl, ⟨rfl, ⟨rfl, trivial⟩⟩⟩ (preC rfl (preC rfl pre0)) rfl rfl (fun g3 c2 hx2 => ?_)
              (try dsimp only)
              refine hseq_nil ?_
              refine hq_block ?_
              refine h13 _ ?_
              refine hw_region ?_
              refine hq_ 112 (hop_addi rfl rfl rfl (by omega) (by omega)) rfl rfl pre0 rfl rfl ?_
              refine hq_ 83 (hop_move rfl) rfl rfl pre0 rfl rfl ?_
              refine hseq_nil ?_
              exact hL10 ((i + 1, o ++ wrapS (inB 3 (ts.getD i default).kind) (ts.getD i default).sig, g3)) _ _ (by (try dsimp only); exact ⟨him, by rw [hoo, sigL_take 3 ts i him, decide_eq_true (show i = 0 by omega)]; simp [orS]⟩) (by (try dsimp only); omega) (hsub_of rfl (Nat.le_refl _) (TmSub.cons rfl (Sb.refl _) (TmSub.cons rfl (Sb.refl _) (TmSub.cons rfl (Sb.refl _) (TmSub.cons rfl (Sb.refl _) (TmSub.cons rfl (Sb.refl _) TmSub.nil))))) (HpSub.cons rfl (OSub.refl _) (HpSub.cons rfl (OSub.refl _) HpSub.nil)))
          · have hr5 := hc5; (try simp only [hcs, Int.reduceToNat] at hc5)
            have hit : i = ts.length := (by omega)
            refine hw_exit ?_
            refine hq_then_exit ?_
            refine hq_then_exit ?_
            refine hq_block_here ?_
            refine hq_block ?_
            refine h4 _ ?_
            refine hw_seq (fun Nh17 h17 => ?_)
            refine hw_region ?_
            refine hq_ 147 (hop_move rfl) rfl rfl pre0 rfl rfl ?_
            refine hseq_nil ?_
            refine h17 _ ?_
            refine hw_cond _ rfl (fun hc8 => ?_) (fun hc8 => ?_)
            · have hr8 := hc8; (try simp only [hcs, Int.reduceToNat] at hc8)
              refine hw_region ?_
              refine hq_ 148 (hop_move rfl) rfl rfl pre0 rfl rfl ?_
              refine hq_ 149 (hop_move rfl) rfl rfl pre0 rfl rfl ?_
              refine hq_ 150 (hop_nilcheck_pt rfl) rfl rfl pre0 rfl rfl ?_
              refine hq_ 151 (hop_fa fd_114_1 rfl) rfl rfl pre0 rfl rfl ?_
              refine hq_ 152 (hol_load ty_33 rfl (nb rfl) (nb rfl) (fun h => (by rfl))) rfl rfl (pre1 rfl) rfl rfl ?_
              refine hq_ 153 (hop_build (hs := [(0, 1, _)]) st_41 rfl rfl ⟨rfl, rfl, rfl, rfl, rfl, trivial⟩) rfl rfl pre0 rfl rfl ?_
              refine hm_1 154 (hop_buildSlice (id := 154) (hs := [_]) ei_33 (nb rfl) rfl (nb rfl) ⟨rfl, rfl, rfl, rfl, trivial⟩) rfl rfl pre0 rfl rfl (c' := c + 1) rfl ?_
              refine hm_1 155 (hol_append ei_33 (nb rfl) rfl (by omega) (nb rfl) (srl_os0 rfl (nb rfl)) (by omega) rfl) rfl rfl (preC rfl (pre1 rfl)) rfl rfl (c' := c + 2) rfl ?_
              refine hq_ 156 (hop_nilcheck_pt rfl) rfl rfl pre0 rfl rfl ?_
              refine hq_ 157 (hop_fa fd_114_1 rfl) rfl rfl pre0 rfl rfl ?_
              refine hm_s1 (hol_store ty_33 rfl rfl rfl rfl (nb rfl) (nb rfl) (nb rfl)) rfl rfl (pre1 rfl) (c' := c + 3) rfl ?_
              refine hseq_nil ?_
              refine hq_fall ?_
              refine hf_retR0 ok hX RetS.one rfl  [] rfl pre0 ((c + 1)) (trivial) (by rfl) (by rfl) ((by first | exact .fz _ _ (.imm _) | exact .os _ _ _ _ _ rfl rfl | exact .pt _ _ _ _ _ rfl rfl | exact .nps _ _ _ rfl rfl | (dsimp only; exact .fz _ _ Frz.fz) | exact .fz _ _ (.tup 0 _ _ (fun i hi => absurd hi (Nat.not_lt_zero _))))) ?_
              exact ⟨⟨_, rfl, okz2 (.fz _ _ (show Fz [] (ptsV e) (ptsV e) from Frz.fz)) (kz_os rfl rfl (by rw [hw1 hc8, hoo, hit, List.take_length, ho]; simp [T.sig]; omega))⟩, ⟨⟨_, rfl, okz_sgn (x := (⟨3, 0, 0, 0, []⟩ : Sg)) (by rw [hw1 hc8, hoo, hit, List.take_length, ho]; simp [T.sig])⟩, trivial⟩⟩
            · have hr8 := hc8; (try simp only [hcs, Int.reduceToNat] at hc8)
              exfalso; rw [hc0] at hr8; cases hr8
        · have hr4 := hc4; (try simp only [hcs, Int.reduceToNat] at hc4)
          exfalso; simp at hr4
  · have hr0 := hc0; (try simp only [hcs, Int.reduceToNat] at hc0)
    have hlw := congrArg List.length (hw0 hc0)
    refine hw_skip ?_
    refine h1 _ ?_
    refine hw_seq (fun Nh18 h18 => ?_)
    refine hw_region ?_
    refine hq_ 22 (hop_move rfl) rfl rfl pre0 rfl rfl ?_
    refine hq_ 23 (hop_nilcheck_pt rfl) rfl rfl pre0 rfl rfl ?_
    refine hq_ 24 (hop_fa fd_114_0 rfl) rfl rfl pre0 rfl rfl ?_
    refine hq_ 25 (hol_load ty_52 rfl (nb rfl) (nb rfl) (fun h => (by rfl))) rfl rfl (pre1 rfl) rfl rfl ?_
    refine hq_ 26 (hop_move rfl) rfl rfl pre0 rfl rfl ?_
    refine hq_ 27 (hop_ia_sl el_52 rfl rfl (by omega) (by omega) (nb rfl)) rfl rfl pre0 rfl rfl ?_
    refine hq_ 28 (HOp.val (v' := ptH (⟨3, 0, 0, [], rootsL b ts⟩)) (hop_load_fp ty_100 rfl (nb rfl) (fun h => (by cases h))) (pt_at (by omega) htop.1)) rfl rfl pre0 rfl rfl ?_
    refine hm_1 6 (hop_alloc (id := 6) (sz := 5) zc_100 rfl rfl (nb rfl) (nb rfl)) rfl rfl pre0 rfl rfl (c' := c + 1) rfl ?_
    refine hm_s1 (hol_storeW ty_100 rfl rfl rfl rfl) rfl rfl (pre1 rfl) (c' := c + 2) rfl ?_
    refine hseq_nil ?_
    refine h18 _ ?_
    refine hw_seq (fun Nh19 h19 => ?_)
    refine hw_seq (fun Nh20 h20 => ?_)
    refine hw_region ?_
    refine hq_ 29 (hop_fa fd_100_0 rfl) rfl rfl pre0 rfl rfl ?_
    refine hq_ 30 (hol_load ty_3 rfl (nb rfl) (nb rfl) (fun h => (by rfl))) rfl rfl (pre1 rfl) rfl rfl ?_
    refine hseq_nil ?_
    refine h20 _ ?_
    refine hw_block ?_
    refine hw_seq (fun Nh21 h21 => ?_)
    refine hw_region ?_
    refine hq_ 32 (hop_eql rfl rfl) rfl rfl pre0 rfl rfl ?_
    refine hq_ 31 (hop_assign rfl) rfl rfl pre0 rfl rfl ?_
    refine hseq_nil ?_
    refine h21 _ ?_
    refine hw_cond _ rfl (fun hc1 => ?_) (fun hc1 => ?_)
    · have hr1 := hc1; (try simp only [hcs, Int.reduceToNat] at hc1)
      exfalso; simp at hr1
    · have hr1 := hc1; (try simp only [hcs, Int.reduceToNat] at hc1)
      refine hw_seq (fun Nh22 h22 => ?_)
      refine hw_region ?_
      refine hq_ 46 (hop_eql rfl rfl) rfl rfl pre0 rfl rfl ?_
      refine hq_ 45 (hop_assign rfl) rfl rfl pre0 rfl rfl ?_
      refine hseq_nil ?_
      refine h22 _ ?_
      refine hw_cond _ rfl (fun hc2 => ?_) (fun hc2 => ?_)
      · have hr2 := hc2; (try simp only [hcs, Int.reduceToNat] at hc2)
        exfalso; simp at hr2
      · have hr2 := hc2; (try simp only [hcs, Int.reduceToNat] at hc2)
        refine hw_seq (fun Nh23 h23 => ?_)
        refine hw_region ?_
        refine hq_ 79 (hop_eql rfl rfl) rfl rfl pre0 rfl rfl ?_
        refine hq_ 78 (hop_assign rfl) rfl rfl pre0 rfl rfl ?_
        refine hseq_nil ?_
        refine h23 _ ?_
        refine hw_cond _ rfl (fun hc4 => ?_) (fun hc4 => ?_)
        · have hr4 := hc4; (try simp only [hcs, Int.reduceToNat] at hc4)
          refine hw_seq (fun Nh24 h24 => ?_)
          obtain ⟨o1, ho⟩ : ∃ o, o = out := ⟨_, rfl⟩; rw [← ho]; have hlo : o1.length = out.length := (by rw [ho]); obtain ⟨gi, hgi⟩ : ∃ x, x = g2 := ⟨_, rfl⟩; rw [← hgi]
          refine hw_region ?_
          refine hq_ 80 (hop_fa fd_100_4 rfl) rfl rfl pre0 rfl rfl ?_
          refine hq_ 81 (hol_load ty_98 rfl (nb rfl) (nb rfl) (fun h => (by rfl))) rfl rfl (pre1 rfl) rfl rfl ?_
          refine hq_ 82 (hop_len_sl (T := 98) rfl (elOf_spec el_98).1 rfl) rfl rfl pre0 rfl rfl ?_
          refine hq_ 83 (hop_move rfl) rfl rfl pre0 rfl rfl ?_
          refine hseq_nil ?_
          refine h24 _ ?_
          refine hw_block ?_
          refine hw_loopc (α := Nat × List Sg × Nat) (fun x c => ⟨158, [(0, .v (.pt 9001 g 0 0)), (2, .v (boolV bin)), (81, .v (kidsV (rootsL b ts))), (82, .v (intV (rootsL b ts).length)), (83, .v (intV x.1))], [(9001, shO g e x.2.2 x.2.1.length), (9002, sgsO x.2.2 x.2.1)], c⟩) (fun x => x.1 ≤ ts.length ∧ x.2.1 = o1 ++ T.sigL 3 true (ts.take x.1)) (fun x => ts.length - x.1) ((0, o1, gi)) (by exact ⟨Nat.zero_le _, by simp [T.sigL]⟩) (hsub_of rfl (Nat.le_refl _) (TmSub.cons rfl (Sb.refl _) (TmSub.cons rfl (Sb.refl _) (TmSub.cons rfl (Sb.refl _) (TmSub.cons rfl (Sb.refl _) (TmSub.cons rfl (Sb.refl _) TmSub.nil))))) (HpSub.cons rfl (OSub.refl _) (HpSub.cons rfl (OSub.refl _) HpSub.nil))) (fun x c hx NhL25 hL25 => ?_)
          revert hx hL25; obtain ⟨i, o, gg⟩ := x; intro hx hL25; dsimp only at hx hL25 ⊢
          obtain ⟨hi, hoo⟩ := hx
          have hol := kids_len hok (i := i) (k := 3) hi; have hol2 : o.length = o1.length + (T.sigL 3 true (ts.take i)).length := (by rw [hoo, List.length_append])
          refine hw_seq (fun Nh26 h26 => ?_)
          refine hw_region ?_
          refine hq_ 84 (hop_lss rfl rfl) rfl rfl pre0 rfl rfl ?_
          refine hseq_nil ?_
          refine h26 _ ?_
          refine hw_seq (fun Nh27 h27 => ?_)
          refine hw_cond _ rfl (fun hc5 => ?_) (fun hc5 => ?_)
          · have hr5 := hc5; (try simp only [hcs, Int.reduceToNat] at hc5)
            have him : i < ts.length := (by omega); have hka := at_kid hat him; have hkt := at_top hka; have hkk : (e.getD (b + T.sizeL (ts.take i) + (ts.getD i default).size - 1) default).kind = (ts.getD i default).kind := (by rw [hkt.1, top_kind]); have hks := (ts.getD i default).size_pos; have hkn := kid_next_len (k := 3) him
            refine hw_skip ?_
            refine h27 _ ?_
            refine hw_seq (fun Nh28 h28 => ?_)
            refine hw_block ?_
            refine hw_seq (fun Nh29 h29 => ?_)
            refine hw_region ?_
            refine hq_ 85 (hop_move rfl) rfl rfl pre0 rfl rfl ?_
            refine hq_ 86 (hop_ia_sl el_98 rfl rfl (by omega) (by omega) (nb rfl)) rfl rfl pre0 rfl rfl ?_
            refine hq_ 87 (HOp.val (v' := intV ((b + T.sizeL (ts.take i) + (ts.getD i default).size - 1 : Nat) : Int)) (hop_load_fp ty_3 rfl (nb rfl) (fun h => (by rfl))) (by exact kids_at (i := i) (by omega) (by rw [roots_get ts b i him]; unfold T.root; omega))) rfl rfl pre0 rfl rfl ?_
            refine hq_ 9 (hop_assign rfl) rfl rfl pre0 rfl rfl ?_
            refine hq_ 10 (hop_assign rfl) rfl rfl pre0 rfl rfl ?_
            refine hseq_nil ?_
            refine h29 _ ?_
            refine hw_seq (fun Nh30 h30 => ?_)
            refine hw_seq (fun Nh31 h31 => ?_)
            refine hw_region ?_
            refine hq_ 88 (hop_move rfl) rfl rfl pre0 rfl rfl ?_
            refine hq_ 89 (hop_gtr rfl rfl) rfl rfl pre0 rfl rfl ?_
            refine hseq_nil ?_
            refine h31 _ ?_
            refine hw_cond _ rfl (fun hc6 => ?_) (fun hc6 => ?_)
            · have hr6 := hc6; (try simp only [hcs, Int.reduceToNat] at hc6)
              have hor : (orS 3 (decide (i = 0))).length = 1 := (by rw [decide_eq_false (show ¬ i = 0 by omega)]; rfl); have hoa : (o ++ [(⟨4, 0, 0, 0, []⟩ : Sg)]).length = o.length + 1 := (by simp)
              refine hw_region ?_
              refine hq_ 90 (hop_move rfl) rfl rfl pre0 rfl rfl ?_
              refine hq_ 91 (hop_move rfl) rfl rfl pre0 rfl rfl ?_
              refine hq_ 92 (hop_nilcheck_pt rfl) rfl rfl pre0 rfl rfl ?_
              refine hq_ 93 (hop_fa fd_114_1 rfl) rfl rfl pre0 rfl rfl ?_
              refine hq_ 94 (hol_load ty_33 rfl (nb rfl) (nb rfl) (fun h => (by rfl))) rfl rfl (pre1 rfl) rfl rfl ?_
              refine hq_ 95 (hop_build (hs := [(0, 1, _)]) st_41 rfl rfl ⟨rfl, rfl, rfl, rfl, rfl, trivial⟩) rfl rfl pre0 rfl rfl ?_
              refine hm_1 96 (hop_buildSlice (id := 96) (hs := [_]) ei_33 (nb rfl) rfl (nb rfl) ⟨rfl, rfl, rfl, rfl, trivial⟩) rfl rfl pre0 rfl rfl (c' := c + 1) rfl ?_
              refine hm_1 97 (hol_append ei_33 (nb rfl) rfl (by omega) (nb rfl) (srl_os0 rfl (nb rfl)) (by omega) rfl) rfl rfl (preC rfl (pre1 rfl)) rfl rfl (c' := c + 2) rfl ?_
              refine hq_ 98 (hop_nilcheck_pt rfl) rfl rfl pre0 rfl rfl ?_
              refine hq_ 99 (hop_fa fd_114_1 rfl) rfl rfl pre0 rfl rfl ?_
              refine hm_s1 (hol_store ty_33 rfl rfl rfl rfl (nb rfl) (nb rfl) (nb rfl)) rfl rfl (pre1 rfl) (c' := c + 3) rfl ?_
              refine hseq_nil ?_
              refine h30 _ ?_
              refine (hsub_ob 9001 (shO g e (c + 1) (o ++ [(⟨4, 0, 0, 0, []⟩ : Sg)]).length) rfl (by exact osub2 (.refl _) (sb_os (by first | (simp; done) | (simp; omega))))).wp ?_; refine (hsub_ob 9002 (sgsO (c + 1) (o ++ [(⟨4, 0, 0, 0, []⟩ : Sg)])) rfl (by exact (osub_snoc (enc := sgF) (d := default) (x := (⟨4, 0, 0, 0, []⟩ : Sg)) (out := o) rfl (fun i j _ _ => .refl _) (sb_sg5 (.refl _) (.refl _) (.refl _) (.refl _) (.refl _))))).wp ?_
              refine hw_region ?_
              refine hq_ 100 (hop_move rfl) rfl rfl pre0 rfl rfl ?_
              refine hq_ 101 (hop_move rfl) rfl rfl pre0 rfl rfl ?_
              refine hq_ 102 (hop_move rfl) rfl rfl pre0 rfl rfl ?_
              refine hq_ 103 (hop_nilcheck_pt rfl) rfl rfl pre0 rfl rfl ?_
              refine hq_ 104 (hop_fa fd_114_0 rfl) rfl rfl pre0 rfl rfl ?_
              refine hq_ 105 (hol_load ty_52 rfl (nb rfl) (nb rfl) (fun h => (by rfl))) rfl rfl (pre1 rfl) rfl rfl ?_
              refine hq_ 106 (hop_move rfl) rfl rfl pre0 rfl rfl ?_
              refine hq_ 107 (hop_ia_sl el_52 rfl rfl (by omega) (by omega) (nb rfl)) rfl rfl pre0 rfl rfl ?_
              refine hq_ 108 (hop_fa_fp fd_100_0 rfl (nb rfl)) rfl rfl pre0 rfl rfl ?_
              refine hq_ 109 (HOp.val (v' := intV (ts.getD i default).kind) (hop_load_fp ty_3 rfl (nb rfl) (fun h => (by rfl))) (kind_at (by omega) hkk)) rfl rfl pre0 rfl rfl ?_
              refine hq_ 110 (hop_eql rfl rfl) rfl rfl pre0 rfl rfl ?_
              refine hf_callR 111 (xs := [_, _, _]) (pre := [(9001, _), (9002, _)]) (ih i him _ g (c + 1) (o ++ [(⟨4, 0, 0, 0, []⟩ : Sg)]) (inB 3 (ts.getD i default).kind) (by omega)) ⟨rfl, ⟨rfl, ⟨rfl, trivial⟩⟩⟩ (preC rfl (preC rfl pre0)) rfl rfl (fun g3 c3 hx3 => ?_)
              (try dsimp only)
              refine hseq_nil ?_
              refine hq_block ?_
              refine h28 _ ?_
              refine hw_region ?_
              refine hq_ 112 (hop_addi rfl rfl rfl (by omega) (by omega)) rfl rfl pre0 rfl rfl ?_
              refine hq_ 83 (hop_move rfl) rfl rfl pre0 rfl rfl ?_
              refine hseq_nil ?_
              exact hL25 ((i + 1, (o ++ [(⟨4, 0, 0, 0, []⟩ : Sg)]) ++ wrapS (inB 3 (ts.getD i default).kind) (ts.getD i default).sig, g3)) _ _ (by (try dsimp only); exact ⟨him, by rw [hoo, sigL_take 3 ts i him, decide_eq_false (show ¬ i = 0 by omega)]; simp [orS]⟩) (by (try dsimp only); omega) (hsub_of rfl (Nat.le_refl _) (TmSub.cons rfl (Sb.refl _) (TmSub.cons rfl (Sb.refl _) (TmSub.cons rfl (Sb.refl _) (TmSub.cons rfl (Sb.refl _) (TmSub.cons rfl (Sb.refl _) TmSub.nil))))) (HpSub.cons rfl (OSub.refl _) (HpSub.cons rfl (OSub.refl _) HpSub.nil)))
            · have hr6 := hc6; (try simp only [hcs, Int.reduceToNat] at hc6)
              refine hw_skip ?_
              refine h30 _ ?_
              refine hw_region ?_
              refine hq_ 100 (hop_move rfl) rfl rfl pre0 rfl rfl ?_
              refine hq_ 101 (hop_move rfl) rfl rfl pre0 rfl rfl ?_
              refine hq_ 102 (hop_move rfl) rfl rfl pre0 rfl rfl ?_
              refine hq_ 103 (hop_nilcheck_pt rfl) rfl rfl pre0 rfl rfl ?_
              refine hq_ 104 (hop_fa fd_114_0 rfl) rfl rfl pre0 rfl rfl ?_
              refine hq_ 105 (hol_load ty_52 rfl (nb rfl) (nb rfl) (fun h => (by rfl))) rfl rfl (pre1 rfl) rfl rfl ?_
              refine hq_ 106 (hop_move rfl) rfl rfl pre0 rfl rfl ?_
              refine hq_ 107 (hop_ia_sl el_52 rfl rfl (by omega) (by omega) (nb rfl)) rfl rfl pre0 rfl rfl ?_
              refine hq_ 108 (hop_fa_fp fd_100_0 rfl (nb rfl)) rfl rfl pre0 rfl rfl ?_
              refine hq_ 109 (HOp.val (v' := intV (ts.getD i default).kind) (hop_load_fp ty_3 rfl (nb rfl) (fun h => (by rfl))) (kind_at (by omega) hkk)) rfl rfl pre0 rfl rfl ?_
              refine hq_ 110 (hop_eql rfl rfl) rfl rfl pre0 rfl rfl ?_
              refine hf_callR 111 (xs := [_, _, _]) (pre := [(9001, _), (9002, _)]) (ih i him _ g gg o (inB 3 (ts.getD i default).kind) (by omega)) ⟨rfl, ⟨rfl, ⟨rfl, trivial⟩⟩⟩ (preC rfl (preC rfl pre0)) rfl rfl (fun g3 c4 hx4 => ?_)
              (try dsimp only)
              refine hseq_nil ?_
              refine hq_block ?_
              refine h28 _ ?_
              refine hw_region ?_
              refine hq_ 112 (hop_addi rfl rfl rfl (by omega) (by omega)) rfl rfl pre0 rfl rfl ?_
              refine hq_ 83 (hop_move rfl) rfl rfl pre0 rfl rfl ?_
              refine hseq_nil ?_
              exact hL25 ((i + 1, o ++ wrapS (inB 3 (ts.getD i default).kind) (ts.getD i default).sig, g3)) _ _ (by (try dsimp only); exact ⟨him, by rw [hoo, sigL_take 3 ts i him, decide_eq_true (show i = 0 by omega)]; simp [orS]⟩) (by (try dsimp only); omega) (hsub_of rfl (Nat.le_refl _) (TmSub.cons rfl (Sb.refl _) (TmSub.cons rfl (Sb.refl _) (TmSub.cons rfl (Sb.refl _) (TmSub.cons rfl (Sb.refl _) (TmSub.cons rfl (Sb.refl _) TmSub.nil))))) (HpSub.cons rfl (OSub.refl _) (HpSub.cons rfl (OSub.refl _) HpSub.nil)))
          · have hr5 := hc5; (try simp only [hcs, Int.reduceToNat] at hc5)
            have hit : i = ts.length := (by omega)
            refine hw_exit ?_
            refine hq_then_exit ?_
            refine hq_then_exit ?_
            refine hq_block_here ?_
            refine hq_block ?_
            refine h19 _ ?_
            refine hw_seq (fun Nh32 h32 => ?_)
            refine hw_region ?_
            refine hq_ 147 (hop_move rfl) rfl rfl pre0 rfl rfl ?_
            refine hseq_nil ?_
            refine h32 _ ?_
            refine hw_cond _ rfl (fun hc8 => ?_) (fun hc8 => ?_)
            · have hr8 := hc8; (try simp only [hcs, Int.reduceToNat] at hc8)
              exfalso; rw [hc0] at hr8; cases hr8
            · have hr8 := hc8; (try simp only [hcs, Int.reduceToNat] at hc8)
              refine hw_skip ?_
              refine hq_fall ?_
              refine hf_retR0 ok hX RetS.one rfl  [] rfl pre0 (gg) (trivial) (by rfl) (by rfl) ((by first | exact .fz _ _ (.imm _) | exact .os _ _ _ _ _ rfl rfl | exact .pt _ _ _ _ _ rfl rfl | exact .nps _ _ _ rfl rfl | (dsimp only; exact .fz _ _ Frz.fz) | exact .fz _ _ (.tup 0 _ _ (fun i hi => absurd hi (Nat.not_lt_zero _))))) ?_
              exact ⟨⟨_, rfl, okz_sh rfl rfl (by rw [hw0 hc8, hoo, hit, List.take_length, ho]; rfl)⟩, ⟨⟨_, rfl, okz_sgs (by rw [hw0 hc8, hoo, hit, List.take_length, ho]; rfl)⟩, trivial⟩⟩
        · have hr4 := hc4; (try simp only [hcs, Int.reduceToNat] at hc4)
          exfalso; simp at hr4
theorem sizeL_ge : ∀ ts : List T, ts.length ≤ T.sizeL ts
  | [] => Nat.le_refl _
  | t :: ts => by have := sizeL_ge ts; have := t.size_pos; simp only [List.length_cons, T.sizeL]; omega
mutual
theorem lay_tree (e : List Pt) (he : e.length ≤ 100000) : ∀ (t : T) (b : Nat), t.ok = true → AtP e b (T.flat b t) → LayC e b t
  | .name s, b, _, hat => lay_name e b he s hat
  | .times lo hi t, b, h, hat => by
    simp only [T.ok, Bool.and_eq_true] at h
    exact lay_times e b he lo hi t (lay_tree e he t b h.2 (AtP.mono_times hat)) hat
  | .many k ts, b, h, hat => by
    simp only [T.ok, Bool.and_eq_true, Bool.or_eq_true, decide_eq_true_eq] at h
    have hl : ts.length ≤ 100000 := by have := sizeL_ge ts; have := (at_top hat).2; simp only [T.size] at this; omega
    have ih := lay_treeL e he ts h.2
    rcases h.1.1 with hk | hk
    · subst hk; exact lay_row e b he ts h.2 hl (fun i hi => ih i hi _ (at_kid hat hi)) hat
    · subst hk; exact lay_choice e b he ts h.2 hl (fun i hi => ih i hi _ (at_kid hat hi)) hat
theorem lay_treeL (e : List Pt) (he : e.length ≤ 100000) : ∀ ts : List T, T.okL ts = true → ∀ i, i < ts.length → ∀ b, AtP e b (T.flat b (ts.getD i default)) → LayC e b (ts.getD i default)
  | [], _, i, hi, _, _ => absurd hi (Nat.not_lt_zero _)
  | t :: ts, h, i, hi, b, hat => by
    simp only [T.okL, Bool.and_eq_true] at h
    cases i with
    | zero => exact lay_tree e he t b h.1 hat
    | succ i => have := lay_treeL e he ts h.2 i (by simpa using hi) b (by simpa using hat); simpa using this
end
end Go.Proofs.YtijpdbjcmnpobaaDoor

namespace Go.Proofs.YtijpdbjcmnpobaaDoor
set_option linter.unusedSimpArgs false
set_option linter.unusedVariables false
set_option maxRecDepth 100000

theorem nameV_W {s : List UInt8} (h : nameV s = true) : SgW ⟨1, 0, 0, 0, s⟩ := by
  unfold nameV at h
  split at h
  · rename_i x hx
    simp only [Bool.and_eq_true, decide_eq_true_eq] at h
    have := kd1 (lexV_W hx x (by simp)) h.1
    rw [h.2] at this; exact this
  · cases h
theorem nameV_len {s : List UInt8} (h : nameV s = true) : s.length ≤ 12 := by
  have := nameV_W h
  cases this with
  | name h1 _ _ => exact h1
theorem times_W {lo hi : Int} (h : (decide (0 ≤ lo) && decide (lo ≤ 20) && (decide (hi = -1) || decide ((if 1 > lo then 1 else lo) ≤ hi) && decide (hi ≤ 20))) = true) : TimesOk lo hi := by
  simp only [Bool.and_eq_true, Bool.or_eq_true, decide_eq_true_eq] at h
  refine ⟨h.1, ?_⟩
  rcases h.2 with h2 | h2
  · exact .inl h2
  · right
    have := h2.1
    split at this <;> omega
theorem wrap_W {b : Bool} {l : List Sg} (h : ∀ x ∈ l, SgW x) : ∀ x ∈ wrapS b l, SgW x := by
  unfold wrapS
  split
  · intro x hx
    simp only [List.append_assoc, List.mem_append, List.mem_singleton] at hx
    rcases hx with rfl | hx | rfl
    · exact .open_
    · exact h x hx
    · exact .shut
  · exact h
mutual
theorem sig_W : ∀ t : T, t.ok = true → ∀ x ∈ t.sig, SgW x
  | .name s, h => fun x hx => by
    simp only [T.sig, List.mem_singleton] at hx
    subst hx; exact nameV_W (by simpa [T.ok] using h)
  | .times lo hi t, h => fun x hx => by
    simp only [T.ok] at h
    have h1 := h
    rw [Bool.and_eq_true] at h1
    simp only [T.sig, List.mem_append, List.mem_singleton] at hx
    rcases hx with hx | rfl
    · exact wrap_W (sig_W t h1.2) x hx
    · exact .times (times_W h1.1)
  | .many k ts, h => by
    simp only [T.ok, Bool.and_eq_true] at h
    simp only [T.sig]
    exact sigL_W k ts h.2 true
theorem sigL_W (k : Int) : ∀ ts : List T, T.okL ts = true → ∀ f, ∀ x ∈ T.sigL k f ts, SgW x
  | [], _, f => fun x hx => by simp [T.sigL] at hx
  | t :: ts, h, f => fun x hx => by
    simp only [T.okL, Bool.and_eq_true] at h
    simp only [T.sigL, List.append_assoc, List.mem_append] at hx
    rcases hx with hx | hx | hx
    · unfold orS at hx
      split at hx
      · simp only [List.mem_singleton] at hx; subst hx; exact .or_
      · cases hx
    · exact wrap_W (sig_W t h.1) x hx
    · exact sigL_W k ts h.2 false x hx
end
mutual
theorem flat_small : ∀ (t : T) (b : Nat), t.ok = true → ∀ x ∈ T.flat b t, x.kids.length ≤ t.size ∧ x.name.length ≤ 12
  | .name s, b, h => fun x hx => by
    simp only [T.flat, List.mem_singleton] at hx
    subst hx; exact ⟨Nat.zero_le _, nameV_len (by simpa [T.ok] using h)⟩
  | .times lo hi t, b, h => fun x hx => by
    simp only [T.ok, Bool.and_eq_true] at h
    simp only [T.flat, List.mem_append, List.mem_singleton] at hx
    rcases hx with hx | rfl
    · have := flat_small t b h.2 x hx
      exact ⟨Nat.le_trans this.1 (by simp only [T.size]; omega), this.2⟩
    · exact ⟨by show 1 ≤ _; simp only [T.size]; omega, Nat.zero_le _⟩
  | .many k ts, b, h => fun x hx => by
    simp only [T.ok, Bool.and_eq_true] at h
    simp only [T.flat, List.mem_append, List.mem_singleton] at hx
    rcases hx with hx | rfl
    · have := flatL_small ts b h.2 x hx
      exact ⟨Nat.le_trans this.1 (by simp only [T.size]; omega), this.2⟩
    · refine ⟨?_, Nat.zero_le _⟩
      show (rootsL b ts).length ≤ _
      rw [rootsL_len]
      have : ∀ ts : List T, ts.length ≤ T.sizeL ts := fun ts => by
        induction ts with
        | nil => exact Nat.le_refl _
        | cons t ts ih => have := t.size_pos; simp only [List.length_cons, T.sizeL]; omega
      have := this ts
      simp only [T.size]; omega
theorem flatL_small : ∀ (ts : List T) (b : Nat), T.okL ts = true → ∀ x ∈ T.flatL b ts, x.kids.length ≤ T.sizeL ts ∧ x.name.length ≤ 12
  | [], b, _ => fun x hx => by simp [T.flatL] at hx
  | t :: ts, b, h => fun x hx => by
    simp only [T.okL, Bool.and_eq_true] at h
    simp only [T.flatL, List.mem_append] at hx
    rcases hx with hx | hx
    · have := flat_small t b h.1 x hx
      exact ⟨Nat.le_trans this.1 (by simp only [T.sizeL]; omega), this.2⟩
    · have := flatL_small ts _ h.2 x hx
      exact ⟨Nat.le_trans this.1 (by simp only [T.sizeL]; omega), this.2⟩
end
/-- The chapter's example. -/
def exE : List UInt8 := [97, 32, 40, 98, 32, 124, 32, 99, 41, 43]
def exT : T := .many 2 [.name [97], .times 1 (-1) (.many 3 [.name [98], .name [99]])]
def exG : List Sg := [⟨1, 0, 0, 0, [97]⟩, ⟨2, 2, 0, 0, []⟩, ⟨1, 3, 0, 0, [98]⟩, ⟨4, 5, 0, 0, []⟩, ⟨1, 7, 0, 0, [99]⟩, ⟨3, 8, 0, 0, []⟩, ⟨5, 9, 1, -1, []⟩]
theorem exE_lex0 : (match lexV exE with | .ok l => decide (l = exG) | .error _ => false) = true := by decide +kernel
theorem exE_lex : lexV exE = .ok exG := by
  have := exE_lex0
  split at this
  · rename_i l hl; rw [hl, of_decide_eq_true this]
  · cases this
theorem exT_sig : exT.sig = [⟨1, 0, 0, 0, [97]⟩, ⟨2, 0, 0, 0, []⟩, ⟨1, 0, 0, 0, [98]⟩, ⟨4, 0, 0, 0, []⟩, ⟨1, 0, 0, 0, [99]⟩, ⟨3, 0, 0, 0, []⟩, ⟨5, 0, 1, -1, []⟩] := by
  simp [exT, T.sig, T.sigL, wrapS, inB, orS, T.kind]
theorem exT_flat : T.flat 0 exT = [⟨1, 0, 0, [97], []⟩, ⟨1, 0, 0, [98], []⟩, ⟨1, 0, 0, [99], []⟩, ⟨3, 0, 0, [], [1, 2]⟩, ⟨4, 1, -1, [], [3]⟩, ⟨2, 0, 0, [], [0, 4]⟩] := by
  simp [exT, T.flat, T.flatL, T.size, T.sizeL, rootsL]
theorem exN : nameV [97] = true ∧ nameV [98] = true ∧ nameV [99] = true := by decide +kernel
theorem exT_ok : exT.ok = true := by
  simp [exT, T.ok, T.okL, exN.1, exN.2.1, exN.2.2]
theorem exT_seg : Seg exG 3 0 exG.length exT := by
  refine sig_seg exT_ok (by rw [exT_sig]; rfl) (fun i hi => ?_)
  rw [exT_sig]
  have : i < 7 := hi
  match i, this with
  | 0, _ => exact ⟨rfl, rfl, rfl, rfl⟩
  | 1, _ => exact ⟨rfl, rfl, rfl, rfl⟩
  | 2, _ => exact ⟨rfl, rfl, rfl, rfl⟩
  | 3, _ => exact ⟨rfl, rfl, rfl, rfl⟩
  | 4, _ => exact ⟨rfl, rfl, rfl, rfl⟩
  | 5, _ => exact ⟨rfl, rfl, rfl, rfl⟩
  | 6, _ => exact ⟨rfl, rfl, rfl, rfl⟩
theorem exT_show : showL exT.sig = [97, 32, 40, 32, 98, 32, 124, 32, 99, 32, 41, 43] := by
  rw [exT_sig]; decide +kernel
/-- A whole text is read in one way. -/
theorem seg_one {l : List Sg} {t t' : T} (h : Seg l 3 0 l.length t) (h' : Seg l 3 0 l.length t') : t = t' := by
  have e : EndOk l 3 l.length := ⟨fun _ => by rw [kd_out (Nat.le_refl _)]; decide, fun _ => by rw [kd_out (Nat.le_refl _)]; decide⟩
  exact (seg_det h h' e e).2
end Go.Proofs.YtijpdbjcmnpobaaDoor

namespace Go.Proofs.YtijpdbjcmnpobaaDoor
set_option linter.unusedSimpArgs false
set_option linter.unusedVariables false
set_option maxRecDepth 100000
set_option maxHeartbeats 1000000
open Go.RowKit

theorem getD_mem' {l : List Pt} {i : Nat} (h : i < l.length) : l.getD i default ∈ l := by
  rw [List.getD_eq_getElem?_getD, List.getElem?_eq_getElem h]; exact List.getElem_mem h
theorem ptB_flat {t : T} (h : t.ok = true) (hs : t.size ≤ 100000) : PtB (T.flat 0 t) := by
  refine ⟨by rw [T.flat_len]; exact hs, fun i hi => ?_⟩
  have := flat_small t 0 h _ (getD_mem' hi)
  omega
theorem exprShow_h (t : T) (h : t.ok = true) (hs : t.size ≤ 250) : HPure Tryd.prog 35 [ptsV (T.flat 0 t)] (strV (showL t.sig)) := by
  have hB := ptB_flat h (by omega)
  have hfl := T.flat_len 0 t
  have hsl := sig_len t h
  have hps := t.size_pos
  have hR := right_h (T.flat 0 t) hB
  rw [right_of_ok h] at hR
  have hat : AtP (T.flat 0 t) 0 (T.flat 0 t) := ⟨[], [], by simp, rfl⟩
  refine hpure_of Tryd.func35 rfl (by kernel_rfl) _ _ _ rfl 25 rfl rfl (fun w F => ?_)
  refine hw_seq (fun Nh1 h1 => ?_)
  refine hw_region ?_
  refine hq_ 2 (hop_assign rfl) rfl rfl pre0 rfl rfl ?_
  refine hseq_nil ?_
  refine h1 _ ?_
  refine hw_seq (fun Nh2 h2 => ?_)
  refine hw_seq (fun Nh3 h3 => ?_)
  refine hw_region ?_
  refine hq_ 4 (hop_move rfl) rfl rfl pre0 rfl rfl ?_
  refine hq_ 5 (hop_len_sl (T := 52) rfl (elOf_spec el_52).1 rfl) rfl rfl pre0 rfl rfl ?_
  refine hq_ 6 (hop_eql rfl rfl) rfl rfl pre0 rfl rfl ?_
  refine hq_ 7 (hop_move rfl) rfl rfl pre0 rfl rfl ?_
  refine hq_g 8 3 7 false _ (fun hb => hop_move rfl) rfl rfl rfl rfl pre0 rfl rfl rfl ?_
  refine hq_g 9 3 7 false _ (fun hb => hop_call0 (xs := [_]) (hR) ⟨rfl, trivial⟩ ⟨(Fz.eq rfl), trivial⟩) rfl rfl rfl rfl pre0 rfl rfl rfl ?_
  refine hq_g 10 3 7 false _ (fun hb => hop_not rfl) rfl rfl rfl rfl pre0 rfl rfl rfl ?_
  refine hq_p 11 (hstep_and _ _ rfl rfl rfl) rfl rfl rfl ?_
  refine hseq_nilU (by rfl) (by simp only [dropUn, slots]; exact rfl) ?_
  refine h3 _ ?_
  refine hw_cond _ rfl (fun hc0 => ?_) (fun hc0 => ?_)
  · have hr0 := hc0; (try simp only [hcs, Int.reduceToNat] at hc0)
    exfalso; have h := hr0; simp at h; rw [h] at hfl; simp at hfl; omega
  · have hr0 := hc0; (try simp only [hcs, Int.reduceToNat] at hc0)
    refine hw_skip ?_
    refine h2 _ ?_
    refine hw_seq (fun Nh4 h4 => ?_)
    refine hw_region ?_
    refine hq_ 12 (hop_move rfl) rfl rfl pre0 rfl rfl ?_
    refine hq_ 13 (hop_build (hs := [(0, 1, _)]) st_114 rfl rfl ⟨rfl, rfl, rfl, rfl, rfl, trivial⟩) rfl rfl pre0 rfl rfl ?_
    refine hm_1 14 (hop_box (id := 9001) (sz := 2) rfl rfl rfl (by decide) (by decide)) rfl rfl pre0 rfl rfl (c' := 1) rfl ?_
    refine hq_ 3 (hop_assign rfl) rfl rfl pre0 rfl rfl ?_
    refine hseq_nil ?_
    refine h4 _ ?_
    refine hw_seq (fun Nh5 h5 => ?_)
    refine (hsub_ownc 9001 1 9002 5 41 (sgsF []) (shF (T.flat 0 t) 1 0) rfl rfl (fun j hj => by match j, hj with | 0, _ => exact .inr rfl | 1, _ => exact .inl ⟨rfl, rfl⟩) (by decide) (by decide) (c' := 2) rfl).wp ?_
    refine hw_region ?_
    refine hq_ 15 (hop_move rfl) rfl rfl pre0 rfl rfl ?_
    refine hq_ 16 (hop_move rfl) rfl rfl pre0 rfl rfl ?_
    refine hq_ 17 (hop_len_sl (T := 52) rfl (elOf_spec el_52).1 rfl) rfl rfl pre0 rfl rfl ?_
    refine hq_ 18 (HOp.val (v' := intV ((0 + t.size - 1 : Nat) : Int)) (hop_subi rfl rfl rfl (by omega) (by omega)) (congrArg intV (show ((T.flat 0 t).length : Int) - 1 = ((0 + t.size - 1 : Nat) : Int) by omega))) rfl rfl pre0 rfl rfl ?_
    refine hf_callR 19 (xs := [_, _, _]) (pre := [(9001, _), (9002, _)]) (lay_tree (T.flat 0 t) hB.1 t 0 h hat _ 0 1 [] false (by show 0 + t.sig.length ≤ _; omega)) ⟨rfl, ⟨rfl, ⟨rfl, trivial⟩⟩⟩ (preC rfl (preC rfl pre0)) rfl rfl (fun g3 c1 hx1 => ?_)
    (try dsimp only)
    refine hseq_nil ?_
    refine h5 _ ?_
    refine hw_seq (fun Nh6 h6 => ?_)
    refine hw_region ?_
    refine hq_ 20 (hop_move rfl) rfl rfl pre0 rfl rfl ?_
    refine hq_ 21 (hop_nilcheck_pt rfl) rfl rfl pre0 rfl rfl ?_
    refine hq_ 22 (hop_fa fd_114_1 rfl) rfl rfl pre0 rfl rfl ?_
    refine hq_ 23 (hol_load ty_33 rfl (nb rfl) (nb rfl) (fun h => (by rfl))) rfl rfl (pre1 rfl) rfl rfl ?_
    refine (hsub_shr 23 [(9002, _)] rfl (preC rfl pre0) rfl ((show Fz _ _ (sgsV ([] ++ wrapS false t.sig)) from fz_row (l := [] ++ wrapS false t.sig) (enc := sgF) (d := default) (List.mem_cons_self ..) rfl rfl (Nat.le_refl _) (fun i j hi hj => sg_fz _ j)))).seq ?_
    refine hq_ 24 (hop_call0 (xs := [_]) (lexShow_h t.sig (by omega) (fun x hx => (sig_W t h x hx).ok)) ⟨rfl, trivial⟩ ⟨(Fz.eq rfl), trivial⟩) rfl rfl pre0 rfl rfl ?_
    refine hq_ 2 (hop_assign rfl) rfl rfl pre0 rfl rfl ?_
    refine hseq_nil ?_
    refine h6 _ ?_
    refine hw_ret ?_
    refine hq_ret1 rfl (rval_tmp rfl) [] rfl pre0 ?_
    exact Frz.fz
theorem ex_parse {r : List Pt × Int × Int} (h : ParseIs exE r) : r = (T.flat 0 exT, 0, 0) := by
  have hne : exG ≠ [] := by decide
  have hc : chk exG 0 0 true true = (-1, false) := all_good exT_seg
  cases h with
  | err e hv => rw [exE_lex] at hv; cases hv
  | none hv => rw [exE_lex] at hv; injection hv with hv; exact absurd hv hne
  | odd l q hv _ _ hq => rw [exE_lex] at hv; injection hv with hv; subst hv; rw [hc] at hq; injection hq with hq _; exact absurd hq (by omega)
  | end_ l hv _ hq => rw [exE_lex] at hv; injection hv with hv; subst hv; rw [hc] at hq; injection hq with _ hq; cases hq
  | ok l t hv hs => rw [exE_lex] at hv; injection hv with hv; subst hv; rw [seg_one hs exT_seg]
theorem live6_h : HPure Tryd.prog 27 [] (boolV true) := by
  have hsz : exT.size = 6 := by simp [exT, T.size, T.sizeL]
  have hsh := exprShow_h exT exT_ok (by omega)
  rw [exT_flat, exT_show] at hsh
  refine hpure_of Tryd.func27 rfl (by kernel_rfl) _ _ _ rfl 49 rfl rfl (fun w F => ?_)
  refine hw_seq (fun Nh1 h1 => ?_)
  refine hw_region ?_
  refine hq_ 0 (hop_assign rfl) rfl rfl pre0 rfl rfl ?_
  refine hseq_nil ?_
  refine h1 _ ?_
  refine hw_seq (fun Nh2 h2 => ?_)
  refine hw_region ?_
  refine hf_callR 5 (xs := [_]) (pre := []) (parse_h _ exE (by decide)) ⟨rfl, trivial⟩ pre0 rfl rfl (fun r c1 hr => ?_)
  (try dsimp only)
  refine hq_ 4 (hop_move rfl) rfl rfl pre0 rfl rfl ?_
  refine hq_ 6 (hop_extract rfl rfl) rfl rfl pre0 rfl rfl ?_
  refine hq_ 7 (hop_extract rfl rfl) rfl rfl pre0 rfl rfl ?_
  refine hq_ 8 (hop_extract rfl rfl) rfl rfl pre0 rfl rfl ?_
  refine hq_ 1 (hop_assign rfl) rfl rfl pre0 rfl rfl ?_
  refine hq_ 2 (hop_assign rfl) rfl rfl pre0 rfl rfl ?_
  refine hq_ 3 (hop_assign rfl) rfl rfl pre0 rfl rfl ?_
  refine hseq_nil ?_
  refine h2 _ ?_
  refine hw_seq (fun Nh3 h3 => ?_)
  obtain rfl := ex_parse hr; simp only [exT_flat]
  refine hw_region ?_
  refine hq_ 9 (hop_move rfl) rfl rfl pre0 rfl rfl ?_
  refine hq_ 10 (hop_eql rfl rfl) rfl rfl pre0 rfl rfl ?_
  refine hq_ 11 (hop_move rfl) rfl rfl pre0 rfl rfl ?_
  refine hq_g 12 2 11 true _ (fun hb => hop_move rfl) rfl rfl rfl rfl pre0 rfl rfl rfl ?_
  refine hq_g 13 2 11 true _ (fun hb => hop_len_sl (T := 52) rfl (elOf_spec el_52).1 rfl) rfl rfl rfl rfl pre0 rfl rfl rfl ?_
  refine hq_g 14 2 11 true _ (fun hb => hop_eql rfl rfl) rfl rfl rfl rfl pre0 rfl rfl rfl ?_
  refine hq_p 15 (hstep_and _ _ rfl rfl rfl) rfl rfl rfl ?_
  refine hq_ 16 (hop_move rfl) rfl rfl pre0 rfl rfl ?_
  refine hq_g 17 7 16 true _ (fun hb => hop_move rfl) rfl rfl rfl rfl pre0 rfl rfl rfl ?_
  refine hq_g 18 7 16 true _ (fun hb => hop_ia_sl el_52 rfl rfl (by (simp at hb; first | omega | (dsimp only; omega) | (simp <;> omega))) (by (simp at hb; first | omega | (dsimp only; omega) | (simp <;> omega))) (nb rfl)) rfl rfl rfl rfl pre0 rfl rfl rfl ?_
  refine hq_g 19 7 16 true _ (fun hb => hop_fa_fp fd_100_0 rfl (nb rfl)) rfl rfl rfl rfl pre0 rfl rfl rfl ?_
  refine hq_g 20 7 16 true _ (fun hb => hop_load_fp ty_3 rfl (nb rfl) (fun h => (by rfl))) rfl rfl rfl rfl pre0 rfl rfl rfl ?_
  refine hq_g 21 7 16 true _ (fun hb => hop_eql rfl rfl) rfl rfl rfl rfl pre0 rfl rfl rfl ?_
  refine hq_p 22 (hstep_and _ _ rfl rfl rfl) rfl rfl rfl ?_
  refine hq_ 23 (hop_move rfl) rfl rfl pre0 rfl rfl ?_
  refine hq_g 24 14 23 true _ (fun hb => hop_move rfl) rfl rfl rfl rfl pre0 rfl rfl rfl ?_
  refine hq_g 25 14 23 true _ (fun hb => hop_ia_sl el_52 rfl rfl (by (simp at hb; first | omega | (dsimp only; omega) | (simp <;> omega))) (by (simp at hb; first | omega | (dsimp only; omega) | (simp <;> omega))) (nb rfl)) rfl rfl rfl rfl pre0 rfl rfl rfl ?_
  refine hq_g 26 14 23 true _ (fun hb => hop_fa_fp fd_100_0 rfl (nb rfl)) rfl rfl rfl rfl pre0 rfl rfl rfl ?_
  refine hq_g 27 14 23 true _ (fun hb => hop_load_fp ty_3 rfl (nb rfl) (fun h => (by rfl))) rfl rfl rfl rfl pre0 rfl rfl rfl ?_
  refine hq_g 28 14 23 true _ (fun hb => hop_eql rfl rfl) rfl rfl rfl rfl pre0 rfl rfl rfl ?_
  refine hq_p 29 (hstep_and _ _ rfl rfl rfl) rfl rfl rfl ?_
  refine hq_ 30 (hop_move rfl) rfl rfl pre0 rfl rfl ?_
  refine hq_g 31 21 30 true _ (fun hb => hop_move rfl) rfl rfl rfl rfl pre0 rfl rfl rfl ?_
  refine hq_g 32 21 30 true _ (fun hb => hop_ia_sl el_52 rfl rfl (by (simp at hb; first | omega | (dsimp only; omega) | (simp <;> omega))) (by (simp at hb; first | omega | (dsimp only; omega) | (simp <;> omega))) (nb rfl)) rfl rfl rfl rfl pre0 rfl rfl rfl ?_
  refine hq_g 33 21 30 true _ (fun hb => hop_fa_fp fd_100_1 rfl (nb rfl)) rfl rfl rfl rfl pre0 rfl rfl rfl ?_
  refine hq_g 34 21 30 true _ (fun hb => hop_load_fp ty_3 rfl (nb rfl) (fun h => (by rfl))) rfl rfl rfl rfl pre0 rfl rfl rfl ?_
  refine hq_g 35 21 30 true _ (fun hb => hop_eql rfl rfl) rfl rfl rfl rfl pre0 rfl rfl rfl ?_
  refine hq_p 36 (hstep_and _ _ rfl rfl rfl) rfl rfl rfl ?_
  refine hq_ 37 (hop_move rfl) rfl rfl pre0 rfl rfl ?_
  refine hq_g 38 28 37 true _ (fun hb => hop_move rfl) rfl rfl rfl rfl pre0 rfl rfl rfl ?_
  refine hq_g 39 28 37 true _ (fun hb => hop_ia_sl el_52 rfl rfl (by (simp at hb; first | omega | (dsimp only; omega) | (simp <;> omega))) (by (simp at hb; first | omega | (dsimp only; omega) | (simp <;> omega))) (nb rfl)) rfl rfl rfl rfl pre0 rfl rfl rfl ?_
  refine hq_g 40 28 37 true _ (fun hb => hop_fa_fp fd_100_0 rfl (nb rfl)) rfl rfl rfl rfl pre0 rfl rfl rfl ?_
  refine hq_g 41 28 37 true _ (fun hb => hop_load_fp ty_3 rfl (nb rfl) (fun h => (by rfl))) rfl rfl rfl rfl pre0 rfl rfl rfl ?_
  refine hq_g 42 28 37 true _ (fun hb => hop_eql rfl rfl) rfl rfl rfl rfl pre0 rfl rfl rfl ?_
  refine hq_p 43 (hstep_and _ _ rfl rfl rfl) rfl rfl rfl ?_
  refine hq_ 44 (hop_move rfl) rfl rfl pre0 rfl rfl ?_
  refine hq_g 45 35 44 true _ (fun hb => hop_move rfl) rfl rfl rfl rfl pre0 rfl rfl rfl ?_
  refine hq_g 46 35 44 true _ (fun hb => hop_call0 (xs := [_]) (hsh) ⟨rfl, trivial⟩ ⟨(Fz.eq rfl), trivial⟩) rfl rfl rfl rfl pre0 rfl rfl rfl ?_
  refine hq_g 47 35 44 true _ (fun hb => hop_seq_l rfl rfl) rfl rfl rfl rfl pre0 rfl rfl rfl ?_
  refine hq_p 48 (hstep_and _ _ rfl rfl rfl) rfl rfl rfl ?_
  refine hq_ 0 (hop_assign rfl) rfl rfl pre0 rfl rfl ?_
  refine hseq_nilU (by rfl) (by simp only [dropUn, slots]; exact rfl) ?_
  refine h3 _ ?_
  refine hw_ret ?_
  refine hq_ret1 rfl (rval_tmp rfl) [] rfl pre0 ?_
  exact fz_bool (by decide)
theorem parse_right {s : List UInt8} {r : List Pt × Int × Int} (h : ParseIs s r) : PtB r.1 ∧ (r.2.2 = 0 → rightV r.1 = true) := by
  have hB0 : PtB ([] : List Pt) := ⟨Nat.zero_le _, fun i hi => absurd hi (Nat.not_lt_zero _)⟩
  have hlen := lexO_len s
  cases h with
  | err e hv => exact ⟨hB0, fun h => absurd h (lexV_err hv)⟩
  | none hv => exact ⟨hB0, fun _ => rfl⟩
  | odd _ _ _ _ _ _ => exact ⟨hB0, fun h => absurd (show (2 : Int) = 0 from h) (by decide)⟩
  | end_ _ _ _ _ => exact ⟨hB0, fun h => absurd (show (5 : Int) = 0 from h) (by decide)⟩
  | ok l t hv hs =>
    rw [hv] at hlen
    have hll : l.length ≤ 200 := hlen
    have hk := seg_ok (lexV_W hv) hs
    have hz := seg_size hs
    exact ⟨ptB_flat hk (by omega), fun _ => right_of_ok hk⟩
end Go.Proofs.YtijpdbjcmnpobaaDoor

namespace Go.Proofs.YtijpdbjcmnpobaaDoor
set_option linter.unusedSimpArgs false
set_option linter.unusedVariables false

/-- Signs beyond the two hundredth. -/
theorem sgW_begin {x : Sg} (h : SgW x) : beginZ (bz (pieceL x) 0) = true := by
  cases h with
  | @name a n h1 h2 h3 =>
    show beginZ (bz n 0) = true
    unfold beginZ; rw [h2]; simp
  | open_ => exact (by decide : beginZ (bz [40] 0) = true)
  | shut => exact (by decide : beginZ (bz [41] 0) = true)
  | or_ => exact (by decide : beginZ (bz [124] 0) = true)
  | @times c a b h =>
    show beginZ (bz (timesL a b) 0) = true
    unfold timesL
    repeat' split
    all_goals first
      | decide
      | (simp only [List.cons_append, List.nil_append, List.append_assoc]; exact (by decide : beginZ 123 = true))
theorem lex_long : ∀ {l : List Sg} {f : Bool} {p : List UInt8} {out : List Sg}, (∀ x ∈ l, SgW x) → out.length ≤ 200 → 200 < out.length + l.length →
    ∃ i, lexAt (p ++ showG f l) p.length out = .error (i, 4)
  | [], f, p, out, _, h1, h2 => by simp at h2; omega
  | x :: r, f, p, out, h, h1, h2 => by
    have hx := h x (List.mem_cons_self ..)
    have hr : ∀ y ∈ r, SgW y := fun y hy => h y (List.mem_cons_of_mem _ hy)
    have hp := piece_head hx
    rw [List.length_cons] at h2
    have key : ∀ q : List UInt8, ∃ i, lexAt (q ++ (pieceL x ++ showG false r)) q.length out = .error (i, 4) := by
      intro q
      have h0 : bz (q ++ (pieceL x ++ showG false r)) q.length = bz (pieceL x) 0 := by rw [bz_app0, bz_pre _ hp.2]
      by_cases hl : out.length = 200
      · exact ⟨_, lexAt_long (by simp only [List.length_append]; omega) (by rw [h0]; exact hp.1) hl (by rw [h0]; exact sgW_begin hx)⟩
      · rw [lexAt_go (by simp only [List.length_append]; omega) (by rw [h0]; exact hp.1) hl (piece_read hx q (showG false r) (fun _ => sep_show hr))]
        obtain ⟨i, e⟩ := lex_long (l := r) (f := false) (p := q ++ pieceL x) (out := out ++ [{ x with at_ := (q.length : Int) }]) hr (by rw [List.length_append]; show out.length + 1 ≤ 200; omega) (by rw [List.length_append]; show 200 < out.length + 1 + r.length; omega)
        rw [List.length_append, List.append_assoc] at e
        exact ⟨i, e⟩
    unfold showG sepL
    by_cases h5 : f = false ∧ x.kind ≠ 5
    · rw [if_pos h5]
      obtain ⟨i, e⟩ := key (p ++ [32])
      refine ⟨i, ?_⟩
      rw [lexAt_sp (by simp) (by rw [bz_app0]; rfl), ← e]
      simp [List.append_assoc]
    · rw [if_neg h5]
      exact key p
/-- What is shown is lexed as it was, or is too long. -/
theorem lex_of {l : List Sg} (h : ∀ x ∈ l, SgW x) : (l.length ≤ 200 ∧ ∃ l', lexV (showL l) = .ok l' ∧ SameBut l l') ∨ (200 < l.length ∧ ∃ i, lexV (showL l) = .error (i, 4)) := by
  by_cases hl : l.length ≤ 200
  · left
    obtain ⟨l', e, hs⟩ := lex_show (l := l) (f := true) (p := []) (out := []) h (by simpa using hl)
    exact ⟨hl, l', e, hs⟩
  · right
    obtain ⟨i, e⟩ := lex_long (l := l) (f := true) (p := []) (out := []) h (Nat.zero_le _) (by simpa using Nat.lt_of_not_le hl)
    exact ⟨by omega, i, e⟩
theorem like_of {x y : Sg} (h : y = { x with at_ := y.at_ }) : Like y x := by
  rw [h]; exact ⟨rfl, rfl, rfl, rfl⟩
/-- The text of a tree is parsed as it, or is too long. -/
theorem parse_show {t : T} (h : t.ok = true) : (t.sig.length ≤ 200 ∧ ∃ l', lexV (showL t.sig) = .ok l' ∧ Seg l' 3 0 l'.length t) ∨ (200 < t.sig.length ∧ ∃ i, lexV (showL t.sig) = .error (i, 4)) := by
  rcases lex_of (sig_W t h) with ⟨hl, l', e, hs⟩ | h2
  · left
    have hlen := sameBut_len hs
    exact ⟨hl, l', e, sig_seg h hlen.symm (fun i hi => like_of (sameBut_at hs i (by omega)))⟩
  · exact .inr h2

def wloop (R : Nat → Int) (ks : List Int) : Nat → Nat → Int
  | 0, at_ => (at_ : Int)
  | n + 1, at_ => if at_ < 1 ∨ ks.getD n 0 ≠ (at_ : Int) - 1 then -1 else if R (at_ - 1) < 0 then -1 else wloop R ks n (R (at_ - 1)).toNat
def wholeN (e : List Pt) : Nat → Nat → Int
  | 0, _ => -1
  | f + 1, en => wloop (wholeN e f) (e.getD en default).kids (e.getD en default).kids.length en
def fineV (e : List Pt) : Bool := e.all aloneV
def refRightV (e : List Pt) : Bool := fineV e && (decide (e.length = 0) || decide (wholeN e e.length (e.length - 1) = 0))
theorem wloop_le {R : Nat → Int} {ks : List Int} (hR : ∀ k, R k ≤ k) : ∀ n at_, wloop R ks n at_ ≤ at_
  | 0, at_ => Int.le_refl _
  | n + 1, at_ => by
    unfold wloop
    split
    · omega
    · split
      · omega
      · have := wloop_le (ks := ks) hR n (R (at_ - 1)).toNat
        have := hR (at_ - 1); omega
theorem whole_le (e : List Pt) : ∀ f en, wholeN e f en ≤ en
  | 0, en => by show (-1 : Int) ≤ _; omega
  | f + 1, en => wloop_le (whole_le e f) _ _
theorem atP_of {e : List Pt} {b : Nat} {l : List Pt} (hl : b + l.length ≤ e.length) (h : ∀ i, i < l.length → e.getD (b + i) default = l.getD i default) : AtP e b l := by
  refine ⟨e.take b, e.drop (b + l.length), ?_, by rw [List.length_take]; omega⟩
  apply List.ext_getElem?
  intro i
  rw [List.append_assoc]
  have hbl : (e.take b).length = b := by rw [List.length_take]; omega
  rcases Nat.lt_or_ge i b with h1 | h1
  · rw [List.getElem?_append_left (by omega), List.getElem?_take, if_pos h1]
  · rw [List.getElem?_append_right (by omega), hbl]
    rcases Nat.lt_or_ge (i - b) l.length with h2 | h2
    · rw [List.getElem?_append_left h2]
      have := h (i - b) h2
      rw [show b + (i - b) = i by omega, List.getD_eq_getElem?_getD, List.getD_eq_getElem?_getD, List.getElem?_eq_getElem (show i < e.length by omega), List.getElem?_eq_getElem h2] at this
      rw [List.getElem?_eq_getElem (show i < e.length by omega), List.getElem?_eq_getElem h2]
      exact congrArg some this
    · rw [List.getElem?_append_right h2, List.getElem?_drop]
      congr 1; omega
theorem atP_join {e : List Pt} {b b' : Nat} {l k : List Pt} (h : AtP e b l) (h2 : AtP e b' k) (hb : b' = b + l.length) : AtP e b (l ++ k) := by
  have hl : b + l.length ≤ e.length := by obtain ⟨u, v, rfl, rfl⟩ := h; simp only [List.length_append]; omega
  have hk : b' + k.length ≤ e.length := by obtain ⟨u, v, rfl, rfl⟩ := h2; simp only [List.length_append]; omega
  refine atP_of (by rw [List.length_append]; omega) (fun i hi => ?_)
  rcases Nat.lt_or_ge i l.length with h1 | h1
  · rw [(atP_get h h1).1, getD_app h1]
  · obtain ⟨j, rfl⟩ : ∃ j, i = l.length + j := ⟨i - l.length, by omega⟩
    rw [List.length_append] at hi
    have := (atP_get h2 (i := j) (by omega)).1
    rw [show b + (l.length + j) = b' + j by omega, this, getD_right]
theorem atP_one {e : List Pt} {i : Nat} {x : Pt} (hi : i < e.length) (h : e.getD i default = x) : AtP e i [x] :=
  atP_of (by show i + 1 ≤ e.length; omega) (fun j hj => by
    obtain rfl : j = 0 := by simpa using hj
    exact h)
/-- Where 'whole' finds the kids there are trees. -/
theorem wloop_trees {e : List Pt} {R : Nat → Int} {ks : List Int} {en : Nat} (hen : en ≤ e.length) (hR : ∀ k, k < en → 0 ≤ R k → ∃ t : T, t.ok = true ∧ AtP e (R k).toNat (T.flat (R k).toNat t) ∧ (R k).toNat + t.size = k + 1) :
    ∀ (n at_ : Nat), n ≤ ks.length → at_ ≤ en → 0 ≤ wloop R ks n at_ → ∃ ts : List T, T.okL ts = true ∧ ts.length = n ∧ AtP e (wloop R ks n at_).toNat (T.flatL (wloop R ks n at_).toNat ts) ∧ (wloop R ks n at_).toNat + T.sizeL ts = at_ ∧ rootsL (wloop R ks n at_).toNat ts = ks.take n
  | 0, at_, _, ha, h => ⟨[], rfl, rfl, atP_of (by show ((at_ : Int)).toNat + 0 ≤ _; omega) (fun i hi => absurd hi (by simp [T.flatL])), by simp [wloop, T.sizeL], by simp [rootsL]⟩
  | n + 1, at_, hn, ha, h => by
    unfold wloop at h ⊢
    by_cases h1 : at_ < 1 ∨ ks.getD n 0 ≠ (at_ : Int) - 1
    · rw [if_pos h1] at h; exact absurd h (by decide)
    · rw [if_neg h1] at h ⊢
      by_cases h2 : R (at_ - 1) < 0
      · rw [if_pos h2] at h; exact absurd h (by decide)
      · rw [if_neg h2] at h ⊢
        obtain ⟨t, hok, hat, hsz⟩ := hR (at_ - 1) (by omega) (by omega)
        obtain ⟨ts, hokL, hlen, hatL, hszL, hrt⟩ := wloop_trees hen hR n (R (at_ - 1)).toNat (by omega) (by have := t.size_pos; omega) h
        generalize (wloop R ks n (R (at_ - 1)).toNat).toNat = b at hatL hszL hrt ⊢
        refine ⟨ts ++ [t], ?_, by simp [hlen], ?_, by rw [T.sizeL_snoc]; omega, ?_⟩
        · clear hlen hatL hszL hrt
          induction ts with
          | nil => simp [T.okL, hok]
          | cons x ts ih => simp only [List.cons_append, T.okL, Bool.and_eq_true] at hokL ⊢; exact ⟨hokL.1, ih hokL.2⟩
        · rw [T.flatL_snoc, hszL]
          exact atP_join hatL hat (by rw [T.flatL_len]; omega)
        · rw [rootsL_snoc, hrt, hszL, List.take_add_one, List.getElem?_eq_getElem (show n < ks.length by omega)]
          congr 1
          have : ks.getD n 0 = (at_ : Int) - 1 := by omega
          rw [List.getD_eq_getElem?_getD, List.getElem?_eq_getElem (show n < ks.length by omega)] at this
          show [T.root _ t] = [ks[n]]
          rw [show ks[n] = (at_ : Int) - 1 from this]
          unfold T.root
          congr 1; omega
theorem alone_tree {x : Pt} {ts : List T} {b : Nat} (hx : aloneV x = true) (hk : rootsL b ts = x.kids) (hok : T.okL ts = true) : ∃ t : T, t.ok = true ∧ T.flat b t = T.flatL b ts ++ [x] := by
  have hl := rootsL_len ts b
  rw [hk] at hl
  unfold aloneV at hx
  obtain ⟨kind, low, high, name, kids⟩ := x
  simp only at hx hk hl
  by_cases h1 : kind = 1
  · rw [if_pos h1] at hx
    simp only [Bool.and_eq_true, decide_eq_true_eq] at hx
    obtain ⟨⟨⟨h2, h3⟩, h4⟩, h5⟩ := hx
    rw [h2] at hl
    have : ts = [] := List.length_eq_zero_iff.1 hl.symm
    subst this
    refine ⟨.name name, by simpa [T.ok] using h5, ?_⟩
    subst h1; subst h3; subst h4
    rw [List.length_eq_zero_iff.1 h2]; rfl
  · rw [if_neg h1] at hx
    by_cases h2 : kind = 2 ∨ kind = 3
    · rw [if_pos h2] at hx
      simp only [Bool.and_eq_true, decide_eq_true_eq] at hx
      obtain ⟨⟨⟨h3, h4⟩, h5⟩, h6⟩ := hx
      refine ⟨.many kind ts, ?_, ?_⟩
      · simp only [T.ok, Bool.and_eq_true, Bool.or_eq_true, decide_eq_true_eq]
        exact ⟨⟨h2, by omega⟩, hok⟩
      · subst h4; subst h5; subst h6; simp only [T.flat, hk]
    · rw [if_neg h2] at hx
      by_cases h3 : kind = 4
      · rw [if_pos h3] at hx
        have hx0 := hx
        simp only [Bool.and_eq_true, decide_eq_true_eq] at hx
        obtain ⟨⟨⟨⟨h4, h5⟩, h6⟩, h7⟩, h8⟩ := hx
        rw [h4] at hl
        match ts, hl, hk, hok with
        | [t], _, hk, hok =>
          simp only [T.okL, Bool.and_eq_true] at hok
          refine ⟨.times low high t, ?_, ?_⟩
          · simp only [T.ok]
            rw [hok.1, decide_eq_true h5, decide_eq_true h6, h7]; rfl
          · subst h3; subst h8; rw [← hk]; simp [T.flat, T.flatL, rootsL]
      · rw [if_neg h3] at hx; cases hx
theorem whole_tree {e : List Pt} (hf : fineV e = true) : ∀ f en, en < e.length → 0 ≤ wholeN e f en → ∃ t : T, t.ok = true ∧ AtP e (wholeN e f en).toNat (T.flat (wholeN e f en).toNat t) ∧ (wholeN e f en).toNat + t.size = en + 1
  | 0, en, _, h => absurd h (by show ¬ (0 : Int) ≤ -1; decide)
  | f + 1, en, hen, h => by
    have hal : aloneV (e.getD en default) = true := by
      rw [List.getD_eq_getElem?_getD, List.getElem?_eq_getElem hen]
      exact List.all_eq_true.1 hf _ (List.getElem_mem hen)
    have hw : wholeN e (f + 1) en = wloop (wholeN e f) (e.getD en default).kids (e.getD en default).kids.length en := rfl
    rw [hw] at h ⊢
    obtain ⟨ts, hok, hlen, hat, hsz, hrt⟩ := wloop_trees (e := e) (R := wholeN e f) (ks := (e.getD en default).kids) (en := en) (by omega) (fun k hk h0 => whole_tree hf f k (by omega) h0) (e.getD en default).kids.length en (Nat.le_refl _) (Nat.le_refl _) h
    generalize (wloop (wholeN e f) (e.getD en default).kids (e.getD en default).kids.length en).toNat = b at hat hsz hrt ⊢
    rw [List.take_length] at hrt
    obtain ⟨t, htok, hfl⟩ := alone_tree hal hrt hok
    refine ⟨t, htok, ?_, ?_⟩
    · rw [hfl]; exact atP_join hat (atP_one hen rfl) (by rw [T.flatL_len]; omega)
    · have := congrArg List.length hfl
      rw [T.flat_len, List.length_append, T.flatL_len] at this
      simp only [List.length_singleton] at this
      omega
theorem right_tree {e : List Pt} (h : refRightV e = true) : e = [] ∨ ∃ t : T, t.ok = true ∧ e = T.flat 0 t := by
  unfold refRightV at h
  simp only [Bool.and_eq_true, Bool.or_eq_true, decide_eq_true_eq] at h
  rcases h.2 with h2 | h2
  · exact .inl (List.length_eq_zero_iff.1 h2)
  · by_cases h0 : e.length = 0
    · exact .inl (List.length_eq_zero_iff.1 h0)
    · right
      obtain ⟨t, hok, hat, hsz⟩ := whole_tree h.1 e.length (e.length - 1) (by omega) (by omega)
      rw [h2] at hat hsz
      refine ⟨t, hok, ?_⟩
      obtain ⟨u, v, he, hu⟩ := hat
      have hu0 : u = [] := List.length_eq_zero_iff.1 hu
      have hlv : v = [] := by
        have := congrArg List.length he
        simp only [List.length_append, T.flat_len] at this
        rw [hu0] at this
        exact List.length_eq_zero_iff.1 (by simp only [List.length_nil] at this; omega)
      rw [hu0, hlv] at he
      simpa using he
end Go.Proofs.YtijpdbjcmnpobaaDoor

namespace Go.Proofs.YtijpdbjcmnpobaaDoor
set_option linter.unusedSimpArgs false
set_option linter.unusedVariables false
set_option maxRecDepth 100000
set_option maxHeartbeats 1000000
open Go.RowKit

theorem whole_h (e : List Pt) (he : PtB e) : ∀ f en, en < f → en < e.length → HPure Tryd.prog 69 [ptsV e, intV en] (intV (wholeN e f en))
  | 0, en, h, _ => absurd h (Nat.not_lt_zero _)
  | f + 1, en, h, hen => by
    have ih := fun k (hk : k < en) => whole_h e he f k (by omega) (by omega)
    have hkb := he.2 en hen
    have hel := he.1
    have hR := whole_le e f
    refine hpure_of Tryd.func69 rfl (by kernel_rfl) _ _ _ rfl 40 rfl rfl (fun w F => ?_)
    refine hw_seq (fun Nh1 h1 => ?_)
    refine hw_region ?_
    refine hq_ 4 (hop_assign rfl) rfl rfl pre0 rfl rfl ?_
    refine hseq_nil ?_
    refine h1 _ ?_
    refine hw_seq (fun Nh2 h2 => ?_)
    refine hw_region ?_
    refine hq_ 8 (hop_move rfl) rfl rfl pre0 rfl rfl ?_
    refine hq_ 9 (hop_move rfl) rfl rfl pre0 rfl rfl ?_
    refine hq_ 10 (hop_ia_sl el_55 rfl rfl (by omega) (by omega) (nb rfl)) rfl rfl pre0 rfl rfl ?_
    refine hq_ 11 (HOp.val (v' := ptH (e.getD en default)) (hop_load_fp ty_109 rfl (nb rfl) (fun h => (by cases h))) (rfl)) rfl rfl pre0 rfl rfl ?_
    refine hm_1 5 (hop_alloc (id := 5) (sz := 5) zc_109 rfl rfl (nb rfl) (nb rfl)) rfl rfl pre0 rfl rfl (c' := 1) rfl ?_
    refine hm_s1 (hol_storeW ty_109 rfl rfl rfl rfl) rfl rfl (pre1 rfl) (c' := 2) rfl ?_
    refine hseq_nil ?_
    refine h2 _ ?_
    refine hw_seq (fun Nh3 h3 => ?_)
    refine hw_region ?_
    refine hq_ 12 (hop_move rfl) rfl rfl pre0 rfl rfl ?_
    refine hq_ 6 (hop_assign rfl) rfl rfl pre0 rfl rfl ?_
    refine hseq_nil ?_
    refine h3 _ ?_
    refine hw_seq (fun Nh4 h4 => ?_)
    refine hw_seq (fun Nh5 h5 => ?_)
    refine hw_region ?_
    refine hq_ 13 (hop_fa fd_109_4 rfl) rfl rfl pre0 rfl rfl ?_
    refine hq_ 14 (HOp.val (v' := kidsV (e.getD en default).kids) (hol_load ty_98 rfl (nb rfl) (nb rfl) (fun h => (by rfl))) (rfl)) rfl rfl (pre1 rfl) rfl rfl ?_
    refine hq_ 15 (hop_len_sl (T := 98) rfl (elOf_spec el_98).1 rfl) rfl rfl pre0 rfl rfl ?_
    refine hq_ 16 (hop_subi rfl rfl rfl (by omega) (by omega)) rfl rfl pre0 rfl rfl ?_
    refine hq_ 7 (hop_assign rfl) rfl rfl pre0 rfl rfl ?_
    refine hseq_nil ?_
    refine h5 _ ?_
    refine hw_block ?_
    refine hw_loopc (α := Nat × Nat) (fun x c => ⟨40, [(0, .v (ptsV e)), (1, .v (intV en)), (5, .v (.pt 5 0 0 0)), (6, .v (intV x.2)), (7, .v (intV ((x.1 : Int) - 1)))], [(5, ⟨0, 1, 5, 109, 0, fun _ => ptF (e.getD en default)⟩)], c⟩) (fun x => x.1 ≤ (e.getD en default).kids.length ∧ x.2 ≤ en ∧ wloop (wholeN e f) (e.getD en default).kids x.1 x.2 = wholeN e (f + 1) en) (fun x => x.1) (((e.getD en default).kids.length, en)) (by exact ⟨Nat.le_refl _, Nat.le_refl _, rfl⟩) (hsub_of rfl (Nat.le_refl _) (TmSub.cons rfl (Sb.refl _) (TmSub.cons rfl (Sb.refl _) (TmSub.cons rfl (Sb.refl _) (TmSub.cons rfl (Sb.refl _) (TmSub.cons rfl (Sb.refl _) TmSub.nil))))) (HpSub.cons rfl (by exact osub5 (.refl _) (.refl _) (.refl _) (.refl _) (.refl _)) HpSub.nil)) (fun x c hx NhL6 hL6 => ?_)
    revert hx hL6; obtain ⟨n, at_⟩ := x; intro hx hL6; dsimp only at hx hL6 ⊢
    obtain ⟨hn, ha, hW⟩ := hx
    refine hw_seq (fun Nh7 h7 => ?_)
    refine hw_seq (fun Nh8 h8 => ?_)
    refine hw_region ?_
    refine hq_ 17 (hop_move rfl) rfl rfl pre0 rfl rfl ?_
    refine hq_ 18 (hop_geq rfl rfl) rfl rfl pre0 rfl rfl ?_
    refine hseq_nil ?_
    refine h8 _ ?_
    refine hw_cond _ rfl (fun hc0 => ?_) (fun hc0 => ?_)
    · have hr0 := hc0; (try simp only [hcs, Int.reduceToNat] at hc0)
      obtain ⟨m, rfl⟩ : ∃ m, n = m + 1 := ⟨n - 1, by omega⟩
      refine hw_skip ?_
      refine h7 _ ?_
      refine hw_seq (fun Nh9 h9 => ?_)
      refine hw_block ?_
      refine hw_seq (fun Nh10 h10 => ?_)
      refine hw_seq (fun Nh11 h11 => ?_)
      refine hw_region ?_
      refine hq_ 21 (hop_move rfl) rfl rfl pre0 rfl rfl ?_
      refine hq_ 22 (hop_lss rfl rfl) rfl rfl pre0 rfl rfl ?_
      refine hq_ 23 (hop_move rfl) rfl rfl pre0 rfl rfl ?_
      refine hq_g 24 2 23 false _ (fun hb => hop_fa fd_109_4 rfl) rfl rfl rfl rfl pre0 rfl rfl rfl ?_
      refine hq_g 25 2 23 false _ (fun hb => HOp.val (v' := kidsV (e.getD en default).kids) (hol_load ty_98 rfl (nb rfl) (nb rfl) (fun h => (by rfl))) (rfl)) rfl rfl rfl rfl (pre1 rfl) rfl rfl rfl ?_
      refine hq_g 26 2 23 false _ (fun hb => hop_move rfl) rfl rfl rfl rfl pre0 rfl rfl rfl ?_
      refine hq_g 27 2 23 false _ (fun hb => hop_ia_sl el_98 rfl rfl (by (simp at hb; first | omega | (dsimp only; omega) | (simp <;> omega))) (by (simp at hb; first | omega | (dsimp only; omega) | (simp <;> omega))) (nb rfl)) rfl rfl rfl rfl pre0 rfl rfl rfl ?_
      refine hq_g 28 2 23 false _ (fun hb => HOp.val (v' := intV ((e.getD en default).kids.getD m 0)) (hop_load_fp ty_3 rfl (nb rfl) (fun h => (by rfl))) (by exact kids_at (i := m) (by omega) rfl)) rfl rfl rfl rfl pre0 rfl rfl rfl ?_
      refine hq_g 29 2 23 false _ (fun hb => hop_move rfl) rfl rfl rfl rfl pre0 rfl rfl rfl ?_
      refine hq_g 30 2 23 false _ (fun hb => hop_subi rfl rfl rfl (by (simp at hb; first | omega | (dsimp only; omega) | (simp <;> omega))) (by (simp at hb; first | omega | (dsimp only; omega) | (simp <;> omega)))) rfl rfl rfl rfl pre0 rfl rfl rfl ?_
      refine hq_g 31 2 23 false _ (fun hb => hop_neq rfl rfl) rfl rfl rfl rfl pre0 rfl rfl rfl ?_
      refine hq_p 32 (hstep_or _ _ rfl rfl rfl) rfl rfl rfl ?_
      refine hseq_nilU (by rfl) (by simp only [dropUn, slots]; exact rfl) ?_
      refine h11 _ ?_
      refine hw_cond _ rfl (fun hc1 => ?_) (fun hc1 => ?_)
      · have hr1 := hc1; (try simp only [hcs, Int.reduceToNat] at hc1)
        have hc : at_ < 1 ∨ (e.getD en default).kids.getD m 0 ≠ (at_ : Int) - 1 := (by have h := hr1; simp at h; omega)
        refine hw_seq (fun Nh12 h12 => ?_)
        refine hw_region ?_
        refine hq_ 4 (hop_assign rfl) rfl rfl pre0 rfl rfl ?_
        refine hseq_nil ?_
        refine h12 _ ?_
        refine hw_ret ?_
        refine hq_then_ret ?_
        refine hq_block_ret ?_
        refine hq_then_ret ?_
        refine hq_then_ret ?_
        refine hq_block_ret ?_
        refine hq_then_ret ?_
        refine hq_ret1 rfl (rval_tmp rfl) [] rfl pre0 ?_
        rw [← hW, wloop, if_pos hc]; exact .imm _
      · have hr1 := hc1; (try simp only [hcs, Int.reduceToNat] at hc1)
        have hc : ¬ (at_ < 1 ∨ (e.getD en default).kids.getD m 0 ≠ (at_ : Int) - 1) := (by have h := hr1; simp at h; omega)
        refine hw_skip ?_
        refine h10 _ ?_
        refine hw_seq (fun Nh13 h13 => ?_)
        refine hw_region ?_
        refine hq_ 33 (hop_move rfl) rfl rfl pre0 rfl rfl ?_
        refine hq_ 34 (hop_move rfl) rfl rfl pre0 rfl rfl ?_
        refine hq_ 35 (HOp.val (v' := intV ((at_ - 1 : Nat) : Int)) (hop_subi rfl rfl rfl (by omega) (by omega)) (congrArg intV (show (at_ : Int) - 1 = ((at_ - 1 : Nat) : Int) by omega))) rfl rfl pre0 rfl rfl ?_
        refine hq_ 36 (hop_call0 (xs := [_, _]) (ih (at_ - 1) (by omega)) ⟨rfl, ⟨rfl, trivial⟩⟩ ⟨(Fz.eq rfl), ⟨(Fz.eq rfl), trivial⟩⟩) rfl rfl pre0 rfl rfl ?_
        refine hq_ 6 (hop_assign rfl) rfl rfl pre0 rfl rfl ?_
        refine hseq_nil ?_
        refine h13 _ ?_
        refine hw_seq (fun Nh14 h14 => ?_)
        refine hw_region ?_
        refine hq_ 37 (hop_move rfl) rfl rfl pre0 rfl rfl ?_
        refine hq_ 38 (hop_lss rfl rfl) rfl rfl pre0 rfl rfl ?_
        refine hseq_nil ?_
        refine h14 _ ?_
        refine hw_cond _ rfl (fun hc2 => ?_) (fun hc2 => ?_)
        · have hr2 := hc2; (try simp only [hcs, Int.reduceToNat] at hc2)
          refine hw_seq (fun Nh15 h15 => ?_)
          refine hw_region ?_
          refine hq_ 4 (hop_assign rfl) rfl rfl pre0 rfl rfl ?_
          refine hseq_nil ?_
          refine h15 _ ?_
          refine hw_ret ?_
          refine hq_block_ret ?_
          refine hq_then_ret ?_
          refine hq_then_ret ?_
          refine hq_block_ret ?_
          refine hq_then_ret ?_
          refine hq_ret1 rfl (rval_tmp rfl) [] rfl pre0 ?_
          rw [← hW, wloop, if_neg hc, if_pos hc2]; exact .imm _
        · have hr2 := hc2; (try simp only [hcs, Int.reduceToNat] at hc2)
          have hW2 := hW; rw [wloop, if_neg hc, if_neg (show ¬ wholeN e f (at_ - 1) < 0 by omega)] at hW2
          refine hw_skip ?_
          refine hq_block ?_
          refine h9 _ ?_
          refine hw_region ?_
          refine hq_ 19 (hop_move rfl) rfl rfl pre0 rfl rfl ?_
          refine hq_ 20 (hop_subi rfl rfl rfl (by omega) (by omega)) rfl rfl pre0 rfl rfl ?_
          refine hq_ 7 (hop_assign rfl) rfl rfl pre0 rfl rfl ?_
          refine hseq_nil ?_
          exact hL6 ((m, (wholeN e f (at_ - 1)).toNat)) _ _ (by (try dsimp only); exact ⟨by omega, by have := hR (at_ - 1); omega, by rw [← hW2]⟩) (by (try dsimp only); omega) (hsub_of rfl (Nat.le_refl _) (TmSub.cons rfl (Sb.refl _) (TmSub.cons rfl (Sb.refl _) (TmSub.cons rfl (Sb.refl _) (TmSub.cons rfl (by dsimp only; exact sb_int (by omega)) (TmSub.cons rfl (by dsimp only; exact sb_int (by omega)) TmSub.nil))))) (HpSub.cons rfl (OSub.refl _) HpSub.nil))
    · have hr0 := hc0; (try simp only [hcs, Int.reduceToNat] at hc0)
      refine hw_exit ?_
      refine hq_then_exit ?_
      refine hq_then_exit ?_
      refine hq_block_here ?_
      refine h4 _ ?_
      refine hw_seq (fun Nh16 h16 => ?_)
      refine hw_region ?_
      refine hq_ 39 (hop_move rfl) rfl rfl pre0 rfl rfl ?_
      refine hq_ 4 (hop_assign rfl) rfl rfl pre0 rfl rfl ?_
      refine hseq_nil ?_
      refine h16 _ ?_
      refine hw_ret ?_
      refine hq_ret1 rfl (rval_tmp rfl) [] rfl pre0 ?_
      obtain rfl : n = 0 := (by omega); rw [← hW]; exact .imm _
/-- Parts that are few. -/
def fewV (e : List Pt) : Bool := decide (e.length ≤ 60) && (List.range e.length).all fun i => decide ((e.getD i default).kids.length ≤ 60) && decide ((e.getD i default).name.length ≤ 100)
theorem few_at {e : List Pt} (h : fewV e = true) : e.length ≤ 60 ∧ ∀ i, i < e.length → (e.getD i default).kids.length ≤ 60 ∧ (e.getD i default).name.length ≤ 100 := by
  unfold fewV at h
  simp only [Bool.and_eq_true, decide_eq_true_eq, List.all_eq_true, List.mem_range] at h
  exact h
theorem few_no {e : List Pt} {i : Nat} (hi : i < e.length) (h : 60 < (e.getD i default).kids.length ∨ 100 < (e.getD i default).name.length) : fewV e = false := by
  cases hf : fewV e with
  | false => rfl
  | true => have := (few_at hf).2 i hi; omega
theorem few_yes {e : List Pt} {i : Nat} (hi : i = e.length ∨ 61 ≤ i) (hle : i ≤ e.length) (h : ∀ j, j < i → (e.getD j default).kids.length ≤ 60 ∧ (e.getD j default).name.length ≤ 100) : fewV e = decide (e.length ≤ 60) := by
  unfold fewV
  by_cases hl : e.length ≤ 60
  · rw [decide_eq_true hl, Bool.true_and, List.all_eq_true]
    intro j hj
    have := h j (by rw [List.mem_range] at hj; omega)
    simp only [Bool.and_eq_true, decide_eq_true_eq]; exact this
  · rw [decide_eq_false hl]; rfl
theorem few_h (e : List Pt) : HPure Tryd.prog 33 [ptsV e] (boolV (fewV e)) := by
  refine hpure_of Tryd.func33 rfl (by kernel_rfl) _ _ _ rfl 33 rfl rfl (fun w F => ?_)
  refine hw_seq (fun Nh1 h1 => ?_)
  refine hw_region ?_
  refine hq_ 2 (hop_assign rfl) rfl rfl pre0 rfl rfl ?_
  refine hseq_nil ?_
  refine h1 _ ?_
  refine hw_seq (fun Nh2 h2 => ?_)
  refine hw_seq (fun Nh3 h3 => ?_)
  refine hw_region ?_
  refine hq_ 3 (hop_assign rfl) rfl rfl pre0 rfl rfl ?_
  refine hseq_nil ?_
  refine h3 _ ?_
  refine hw_block ?_
  refine hw_loopc (α := Nat) (fun x c => ⟨33, [(0, .v (ptsV e)), (3, .v (intV x))], [], c⟩) (fun x => x ≤ e.length ∧ x ≤ 61 ∧ ∀ j, j < x → (e.getD j default).kids.length ≤ 60 ∧ (e.getD j default).name.length ≤ 100) (fun x => e.length - x) (0) (by exact ⟨Nat.zero_le _, Nat.zero_le _, fun j hj => absurd hj (Nat.not_lt_zero _)⟩) (hsub_of rfl (Nat.le_refl _) (TmSub.cons rfl (Sb.refl _) (TmSub.cons rfl (Sb.refl _) TmSub.nil)) HpSub.nil) (fun i c hx NhL4 hL4 => ?_)
  (try dsimp only at hx hL4 ⊢)
  obtain ⟨hi, hi6, hE⟩ := hx
  refine hw_seq (fun Nh5 h5 => ?_)
  refine hw_seq (fun Nh6 h6 => ?_)
  refine hw_region ?_
  refine hq_ 4 (hop_move rfl) rfl rfl pre0 rfl rfl ?_
  refine hq_ 5 (hop_move rfl) rfl rfl pre0 rfl rfl ?_
  refine hq_ 6 (hop_len_sl (T := 55) rfl (elOf_spec el_55).1 rfl) rfl rfl pre0 rfl rfl ?_
  refine hq_ 7 (hop_lss rfl rfl) rfl rfl pre0 rfl rfl ?_
  refine hq_ 8 (hop_move rfl) rfl rfl pre0 rfl rfl ?_
  refine hq_g 9 4 8 true _ (fun hb => hop_move rfl) rfl rfl rfl rfl pre0 rfl rfl rfl ?_
  refine hq_g 10 4 8 true _ (fun hb => hop_lss rfl rfl) rfl rfl rfl rfl pre0 rfl rfl rfl ?_
  refine hq_p 11 (hstep_and _ _ rfl rfl rfl) rfl rfl rfl ?_
  refine hseq_nilU (by rfl) (by simp only [dropUn, slots]; exact rfl) ?_
  refine h6 _ ?_
  refine hw_cond _ rfl (fun hc0 => ?_) (fun hc0 => ?_)
  · have hr0 := hc0; (try simp only [hcs, Int.reduceToNat] at hc0)
    have hil : i < e.length := (by have h := hr0; simp at h; omega); have hi61 : i < 61 := (by have h := hr0; simp at h; omega)
    refine hw_skip ?_
    refine h5 _ ?_
    refine hw_seq (fun Nh7 h7 => ?_)
    refine hw_block ?_
    refine hw_seq (fun Nh8 h8 => ?_)
    refine hw_region ?_
    refine hq_ 14 (hop_move rfl) rfl rfl pre0 rfl rfl ?_
    refine hq_ 15 (hop_move rfl) rfl rfl pre0 rfl rfl ?_
    refine hq_ 16 (hop_ia_sl el_55 rfl rfl (by omega) (by omega) (nb rfl)) rfl rfl pre0 rfl rfl ?_
    refine hq_ 17 (hop_fa_fp fd_109_4 rfl (nb rfl)) rfl rfl pre0 rfl rfl ?_
    refine hq_ 18 (HOp.val (v' := kidsV (e.getD i default).kids) (hop_load_fp ty_98 rfl (nb rfl) (fun h => (by rfl))) (rfl)) rfl rfl pre0 rfl rfl ?_
    refine hq_ 19 (hop_len_sl (T := 98) rfl (elOf_spec el_98).1 rfl) rfl rfl pre0 rfl rfl ?_
    refine hq_ 20 (hop_gtr rfl rfl) rfl rfl pre0 rfl rfl ?_
    refine hq_ 21 (hop_move rfl) rfl rfl pre0 rfl rfl ?_
    refine hq_g 22 7 21 false _ (fun hb => hop_move rfl) rfl rfl rfl rfl pre0 rfl rfl rfl ?_
    refine hq_g 23 7 21 false _ (fun hb => hop_move rfl) rfl rfl rfl rfl pre0 rfl rfl rfl ?_
    refine hq_g 24 7 21 false _ (fun hb => hop_ia_sl el_55 rfl rfl (by (simp at hb; first | omega | (dsimp only; omega) | (simp <;> omega))) (by (simp at hb; first | omega | (dsimp only; omega) | (simp <;> omega))) (nb rfl)) rfl rfl rfl rfl pre0 rfl rfl rfl ?_
    refine hq_g 25 7 21 false _ (fun hb => hop_fa_fp fd_109_3 rfl (nb rfl)) rfl rfl rfl rfl pre0 rfl rfl rfl ?_
    refine hq_g 26 7 21 false _ (fun hb => HOp.val (v' := strV (e.getD i default).name) (hop_load_fp ty_9 rfl (nb rfl) (fun h => (by rfl))) (rfl)) rfl rfl rfl rfl pre0 rfl rfl rfl ?_
    refine hq_g 27 7 21 false _ (fun hb => hop_len_strl (T := 9) rfl (by kernel_rfl) rfl) rfl rfl rfl rfl pre0 rfl rfl rfl ?_
    refine hq_g 28 7 21 false _ (fun hb => hop_gtr rfl rfl) rfl rfl rfl rfl pre0 rfl rfl rfl ?_
    refine hq_p 29 (hstep_or _ _ rfl rfl rfl) rfl rfl rfl ?_
    refine hseq_nilU (by rfl) (by simp only [dropUn, slots]; exact rfl) ?_
    refine h8 _ ?_
    refine hw_cond _ rfl (fun hc1 => ?_) (fun hc1 => ?_)
    · have hr1 := hc1; (try simp only [hcs, Int.reduceToNat] at hc1)
      have hno : 60 < (e.getD i default).kids.length ∨ 100 < (e.getD i default).name.length := (by have h := hr1; simp at h; omega)
      refine hw_seq (fun Nh9 h9 => ?_)
      refine hw_region ?_
      refine hq_ 2 (hop_assign rfl) rfl rfl pre0 rfl rfl ?_
      refine hseq_nil ?_
      refine h9 _ ?_
      refine hw_ret ?_
      refine hq_block_ret ?_
      refine hq_then_ret ?_
      refine hq_then_ret ?_
      refine hq_block_ret ?_
      refine hq_then_ret ?_
      refine hq_ret1 rfl (rval_tmp rfl) [] rfl pre0 ?_
      rw [few_no hil hno]; exact .imm _
    · have hr1 := hc1; (try simp only [hcs, Int.reduceToNat] at hc1)
      have hok : (e.getD i default).kids.length ≤ 60 ∧ (e.getD i default).name.length ≤ 100 := (by have h := hr1; simp at h; omega)
      refine hw_skip ?_
      refine hq_block ?_
      refine h7 _ ?_
      refine hw_region ?_
      refine hq_ 12 (hop_move rfl) rfl rfl pre0 rfl rfl ?_
      refine hq_ 13 (hop_addi rfl rfl rfl (by omega) (by omega)) rfl rfl pre0 rfl rfl ?_
      refine hq_ 3 (hop_assign rfl) rfl rfl pre0 rfl rfl ?_
      refine hseq_nil ?_
      exact hL4 (i + 1) _ _ (by (try dsimp only); exact ⟨by omega, by omega, fun j hj => by by_cases e' : j = i; (· subst e'; exact hok); exact hE j (by omega)⟩) (by (try dsimp only); omega) (hsub_of rfl (Nat.le_refl _) (TmSub.cons rfl (Sb.refl _) (TmSub.cons rfl (Sb.refl _) TmSub.nil)) HpSub.nil)
  · have hr0 := hc0; (try simp only [hcs, Int.reduceToNat] at hc0)
    have hex : i = e.length ∨ 61 ≤ i := (by have h := hr0; simp at h; omega)
    refine hw_exit ?_
    refine hq_then_exit ?_
    refine hq_then_exit ?_
    refine hq_block_here ?_
    refine h2 _ ?_
    refine hw_seq (fun Nh10 h10 => ?_)
    refine hw_region ?_
    refine hq_ 30 (hop_move rfl) rfl rfl pre0 rfl rfl ?_
    refine hq_ 31 (hop_len_sl (T := 55) rfl (elOf_spec el_55).1 rfl) rfl rfl pre0 rfl rfl ?_
    refine hq_ 32 (hop_leq rfl rfl) rfl rfl pre0 rfl rfl ?_
    refine hq_ 2 (hop_assign rfl) rfl rfl pre0 rfl rfl ?_
    refine hseq_nil ?_
    refine h10 _ ?_
    refine hw_ret ?_
    refine hq_ret1 rfl (rval_tmp rfl) [] rfl pre0 ?_
    rw [few_yes hex hi hE]; exact fz_bool (decide_eq_decide.2 (by omega))
end Go.Proofs.YtijpdbjcmnpobaaDoor

namespace Go.Proofs.YtijpdbjcmnpobaaDoor
set_option linter.unusedSimpArgs false
set_option linter.unusedVariables false
set_option maxRecDepth 100000
set_option maxHeartbeats 1000000
open Go.RowKit

theorem name_ref (s : List UInt8) (hs : s.length ≤ 1000000) : ∃ r : List Sg × Int × Int, HPure Tryd.prog 23 [strV s] (lexH r) ∧ r.1.length ≤ 200 ∧ nameV s = (decide (r.2.2 = 0) && decide (r.1.length = 1) && decide ((r.1.getD 0 default).kind = 1) && decide ((r.1.getD 0 default).name = s)) := by
  refine ⟨lexO (lexV s), refLex_h s hs, lexO_len s, ?_⟩
  unfold nameV
  cases hv : lexV s with
  | error e =>
    have h := lexV_err hv
    have h2 : ¬ (e.2 = 0) := h
    show false = (decide (e.2 = 0) && _ && _ && _)
    rw [decide_eq_false h2]; rfl
  | ok l =>
    match l with
    | [] => rfl
    | [x] => rfl
    | x :: y :: l => simp [lexO]
theorem cnt_eq (lo hi : Int) : (decide (1 ≤ hi) && decide (hi ≤ 20) && decide (lo ≤ hi)) = (decide ((if 1 > lo then 1 else lo) ≤ hi) && decide (hi ≤ 20)) := by
  rw [Bool.eq_iff_iff]
  simp only [Bool.and_eq_true, decide_eq_true_eq]
  split <;> constructor <;> intro h <;> omega
theorem ref_big {x : Pt} {r : List Sg × Int × Int} (hN : nameV x.name = (decide (r.2.2 = 0) && decide (r.1.length = 1) && decide ((r.1.getD 0 default).kind = 1) && decide ((r.1.getD 0 default).name = x.name))) :
    (x.kind == 1 && (x.kids.length : Int) == 0 && (x.low == 0 && x.high == 0) && (r.2.2 == 0 && (r.1.length : Int) == 1 && (r.1.getD 0 default).kind == 1 && decide ((r.1.getD 0 default).name = x.name)) ||
      (x.kind == 2 || x.kind == 3) && decide (2 ≤ (x.kids.length : Int)) && (x.low == 0 && x.high == 0) && decide (x.name = []) ||
      x.kind == 4 && (x.kids.length : Int) == 1 && (decide (0 ≤ x.low) && decide (x.low ≤ 20) && (x.high == -1 || decide (1 ≤ x.high) && decide (x.high ≤ 20) && decide (x.low ≤ x.high))) && decide (x.name = [])) = aloneV x := by
  have h2l : decide (2 ≤ (x.kids.length : Int)) = decide (1 < x.kids.length) := decide_eq_decide.2 (by omega)
  simp only [beq_d, int_0, int_1]
  rw [← hN, h2l, cnt_eq]
  unfold aloneV
  by_cases h1 : x.kind = 1
  · rw [if_pos h1, decide_eq_true h1, decide_eq_false (show ¬ x.kind = 2 by omega), decide_eq_false (show ¬ x.kind = 3 by omega), decide_eq_false (show ¬ x.kind = 4 by omega)]
    simp [Bool.and_assoc]
  · rw [if_neg h1, decide_eq_false h1]
    by_cases h2 : x.kind = 2 ∨ x.kind = 3
    · rw [if_pos h2, decide_eq_false (show ¬ x.kind = 4 by omega)]
      have : (decide (x.kind = 2) || decide (x.kind = 3)) = true := by simpa using h2
      rw [this]
      simp [Bool.and_assoc]
    · rw [if_neg h2]
      have : (decide (x.kind = 2) || decide (x.kind = 3)) = false := by
        rw [Bool.or_eq_false_iff]; exact ⟨decide_eq_false (by omega), decide_eq_false (by omega)⟩
      rw [this]
      by_cases h4 : x.kind = 4
      · rw [if_pos h4, decide_eq_true h4]; simp [Bool.and_assoc]
      · rw [if_neg h4, decide_eq_false h4]; simp
theorem fine_no {e : List Pt} {i : Nat} (hi : i < e.length) (h : aloneV (e.getD i default) = false) : refRightV e = false := by
  have : fineV e = false := by
    cases hf : fineV e with
    | false => rfl
    | true =>
      have := List.all_eq_true.1 hf _ (getD_mem' hi)
      rw [h] at this; cases this
  unfold refRightV; rw [this]; rfl
theorem fine_yes {e : List Pt} (h : ∀ j, j < e.length → aloneV (e.getD j default) = true) : fineV e = true := by
  rw [fineV, List.all_eq_true]
  intro x hx
  obtain ⟨i, hi, rfl⟩ := List.mem_iff_getElem.1 hx
  have := h i hi
  rwa [List.getD_eq_getElem?_getD, List.getElem?_eq_getElem hi] at this
theorem len_sub {n : Nat} (h : ((n : Int) == 0) = false) : (n : Int) - 1 = ((n - 1 : Nat) : Int) := by simp at h; omega
theorem len_lt {n : Nat} (h : ((n : Int) == 0) = false) : n - 1 < n := by simp at h; omega
theorem refRight_h (e : List Pt) (he : PtB e) : HPure Tryd.prog 34 [ptsV e] (boolV (refRightV e)) := by
  have hel := he.1
  refine hpure_of Tryd.func34 rfl (by kernel_rfl) _ _ _ rfl 161 rfl rfl (fun w F => ?_)
  refine hw_seq (fun Nh1 h1 => ?_)
  refine hw_region ?_
  refine hq_ 2 (hop_assign rfl) rfl rfl pre0 rfl rfl ?_
  refine hseq_nil ?_
  refine h1 _ ?_
  refine hw_seq (fun Nh2 h2 => ?_)
  refine hw_seq (fun Nh3 h3 => ?_)
  refine hw_region ?_
  refine hq_ 3 (hop_assign rfl) rfl rfl pre0 rfl rfl ?_
  refine hseq_nil ?_
  refine h3 _ ?_
  refine hw_block ?_
  refine hw_loopc (α := Nat) (fun x c => ⟨161, [(0, .v (ptsV e)), (3, .v (intV x))], [], c⟩) (fun x => x ≤ e.length ∧ ∀ j, j < x → aloneV (e.getD j default) = true) (fun x => e.length - x) (0) (by exact ⟨Nat.zero_le _, fun j hj => absurd hj (Nat.not_lt_zero _)⟩) (hsub_of rfl (Nat.le_refl _) (TmSub.cons rfl (Sb.refl _) (TmSub.cons rfl (Sb.refl _) TmSub.nil)) HpSub.nil) (fun i c hx NhL4 hL4 => ?_)
  (try dsimp only at hx hL4 ⊢)
  obtain ⟨hi, hE⟩ := hx
  refine hw_seq (fun Nh5 h5 => ?_)
  refine hw_seq (fun Nh6 h6 => ?_)
  refine hw_region ?_
  refine hq_ 13 (hop_move rfl) rfl rfl pre0 rfl rfl ?_
  refine hq_ 14 (hop_move rfl) rfl rfl pre0 rfl rfl ?_
  refine hq_ 15 (hop_len_sl (T := 55) rfl (elOf_spec el_55).1 rfl) rfl rfl pre0 rfl rfl ?_
  refine hq_ 16 (hop_lss rfl rfl) rfl rfl pre0 rfl rfl ?_
  refine hseq_nil ?_
  refine h6 _ ?_
  refine hw_cond _ rfl (fun hc0 => ?_) (fun hc0 => ?_)
  · have hr0 := hc0; (try simp only [hcs, Int.reduceToNat] at hc0)
    have hil : i < e.length := (by omega); have hkb := he.2 i hil; obtain ⟨r, hlx, hrl, hN⟩ := name_ref (e.getD i default).name (by omega)
    refine hw_skip ?_
    refine h5 _ ?_
    refine hw_seq (fun Nh7 h7 => ?_)
    refine hw_block ?_
    refine hw_seq (fun Nh8 h8 => ?_)
    refine hw_region ?_
    refine hq_ 19 (hop_move rfl) rfl rfl pre0 rfl rfl ?_
    refine hq_ 20 (hop_move rfl) rfl rfl pre0 rfl rfl ?_
    refine hq_ 21 (hop_ia_sl el_55 rfl rfl (by omega) (by omega) (nb rfl)) rfl rfl pre0 rfl rfl ?_
    refine hq_ 22 (HOp.val (v' := ptH (e.getD i default)) (hop_load_fp ty_109 rfl (nb rfl) (fun h => (by cases h))) (rfl)) rfl rfl pre0 rfl rfl ?_
    refine hm_1 4 (hop_alloc (id := 4) (sz := 5) zc_109 rfl rfl (nb rfl) (nb rfl)) rfl rfl pre0 rfl rfl (c' := c + 1) rfl ?_
    refine hm_s1 (hol_storeW ty_109 rfl rfl rfl rfl) rfl rfl (pre1 rfl) (c' := c + 2) rfl ?_
    refine hseq_nil ?_
    refine h8 _ ?_
    refine hw_seq (fun Nh9 h9 => ?_)
    refine hw_region ?_
    refine hq_ 23 (hop_fa fd_109_4 rfl) rfl rfl pre0 rfl rfl ?_
    refine hq_ 24 (HOp.val (v' := kidsV (e.getD i default).kids) (hol_load ty_98 rfl (nb rfl) (nb rfl) (fun h => (by rfl))) (rfl)) rfl rfl (pre1 rfl) rfl rfl ?_
    refine hq_ 25 (hop_len_sl (T := 98) rfl (elOf_spec el_98).1 rfl) rfl rfl pre0 rfl rfl ?_
    refine hq_ 5 (hop_assign rfl) rfl rfl pre0 rfl rfl ?_
    refine hseq_nil ?_
    refine h9 _ ?_
    refine hw_seq (fun Nh10 h10 => ?_)
    refine hw_region ?_
    refine hq_ 27 (hop_fa fd_109_3 rfl) rfl rfl pre0 rfl rfl ?_
    refine hq_ 28 (HOp.val (v' := strV (e.getD i default).name) (hol_load ty_9 rfl (nb rfl) (nb rfl) (fun h => (by rfl))) (rfl)) rfl rfl (pre1 rfl) rfl rfl ?_
    refine hq_ 29 (hop_call0 (xs := [_]) (hlx) ⟨rfl, trivial⟩ ⟨(Fz.eq rfl), trivial⟩) rfl rfl pre0 rfl rfl ?_
    refine hq_ 26 (hop_move rfl) rfl rfl pre0 rfl rfl ?_
    refine hq_ 30 (hop_extract rfl rfl) rfl rfl pre0 rfl rfl ?_
    refine hq_ 31 (hop_extract rfl rfl) rfl rfl pre0 rfl rfl ?_
    refine hq_ 32 (hop_extract rfl rfl) rfl rfl pre0 rfl rfl ?_
    refine hq_ 6 (hop_assign rfl) rfl rfl pre0 rfl rfl ?_
    refine hq_ 7 (hop_assign rfl) rfl rfl pre0 rfl rfl ?_
    refine hq_ 8 (hop_assign rfl) rfl rfl pre0 rfl rfl ?_
    refine hseq_nil ?_
    refine h10 _ ?_
    refine hw_seq (fun Nh11 h11 => ?_)
    refine hd_start ?_
    refine hd_q 33 (hop_move rfl) rfl rfl pre0 rfl rfl (k' := 1) rfl ?_
    refine hd_q 34 (hop_eql rfl rfl) rfl rfl pre0 rfl rfl (k' := 2) rfl ?_
    refine hd_q 35 (hop_move rfl) rfl rfl pre0 rfl rfl (k' := 3) rfl ?_
    refine hd_g 36 2 35 true _ (fun hb => hop_move rfl) rfl rfl rfl rfl pre0 rfl rfl rfl (k' := 4) rfl ?_
    refine hd_g 37 2 35 true _ (fun hb => hop_len_sl (T := 36) rfl (elOf_spec el_36).1 rfl) rfl rfl rfl rfl pre0 rfl rfl rfl (k' := 5) rfl ?_
    refine hd_g 38 2 35 true _ (fun hb => hop_eql rfl rfl) rfl rfl rfl rfl pre0 rfl rfl rfl (k' := 6) rfl ?_
    refine hd_p 39 (hstep_and _ _ rfl rfl rfl) rfl rfl rfl (k' := 7) rfl ?_
    refine hd_q 40 (hop_move rfl) rfl rfl pre0 rfl rfl (k' := 8) rfl ?_
    refine hd_g 41 7 40 true _ (fun hb => hop_move rfl) rfl rfl rfl rfl pre0 rfl rfl rfl (k' := 9) rfl ?_
    refine hd_g 42 7 40 true _ (fun hb => hop_ia_sl el_36 rfl rfl (by (simp at hb; first | omega | (dsimp only; omega) | (simp <;> omega))) (by (simp at hb; first | omega | (dsimp only; omega) | (simp <;> omega))) (nb rfl)) rfl rfl rfl rfl pre0 rfl rfl rfl (k' := 10) rfl ?_
    refine hd_g 43 7 40 true _ (fun hb => hop_fa_fp fd_40_0 rfl (nb rfl)) rfl rfl rfl rfl pre0 rfl rfl rfl (k' := 11) rfl ?_
    refine hd_g 44 7 40 true _ (fun hb => HOp.val (v' := intV (r.1.getD 0 default).kind) (hop_load_fp ty_3 rfl (nb rfl) (fun h => (by rfl))) (rfl)) rfl rfl rfl rfl pre0 rfl rfl rfl (k' := 12) rfl ?_
    refine hd_g 45 7 40 true _ (fun hb => hop_eql rfl rfl) rfl rfl rfl rfl pre0 rfl rfl rfl (k' := 13) rfl ?_
    refine hd_p 46 (hstep_and _ _ rfl rfl rfl) rfl rfl rfl (k' := 14) rfl ?_
    refine hd_q 47 (hop_move rfl) rfl rfl pre0 rfl rfl (k' := 15) rfl ?_
    refine hd_g 48 14 47 true _ (fun hb => hop_move rfl) rfl rfl rfl rfl pre0 rfl rfl rfl (k' := 16) rfl ?_
    refine hd_g 49 14 47 true _ (fun hb => hop_ia_sl el_36 rfl rfl (by (simp at hb; first | omega | (dsimp only; omega) | (simp <;> omega))) (by (simp at hb; first | omega | (dsimp only; omega) | (simp <;> omega))) (nb rfl)) rfl rfl rfl rfl pre0 rfl rfl rfl (k' := 17) rfl ?_
    refine hd_g 50 14 47 true _ (fun hb => hop_fa_fp fd_40_4 rfl (nb rfl)) rfl rfl rfl rfl pre0 rfl rfl rfl (k' := 18) rfl ?_
    refine hd_g 51 14 47 true _ (fun hb => HOp.val (v' := strV (r.1.getD 0 default).name) (hop_load_fp ty_9 rfl (nb rfl) (fun h => (by rfl))) (rfl)) rfl rfl rfl rfl pre0 rfl rfl rfl (k' := 19) rfl ?_
    refine hd_g 52 14 47 true _ (fun hb => hop_fa fd_109_3 rfl) rfl rfl rfl rfl pre0 rfl rfl rfl (k' := 20) rfl ?_
    refine hd_g 53 14 47 true _ (fun hb => HOp.val (v' := strV (e.getD i default).name) (hol_load ty_9 rfl (nb rfl) (nb rfl) (fun h => (by rfl))) (rfl)) rfl rfl rfl rfl (pre1 rfl) rfl rfl rfl (k' := 21) rfl ?_
    refine hd_g 54 14 47 true _ (fun hb => hop_seq_l rfl rfl) rfl rfl rfl rfl pre0 rfl rfl rfl (k' := 22) rfl ?_
    refine hd_p 55 (hstep_and _ _ rfl rfl rfl) rfl rfl rfl (k' := 23) rfl ?_
    refine hd_q 9 (hop_assign rfl) rfl rfl pre0 rfl rfl (k' := 24) rfl ?_
    refine hd_nil (by kernel_rfl) (by kernel_rfl) (c' := c + 26) rfl ?_
    refine h11 _ ?_
    refine hw_seq (fun Nh12 h12 => ?_)
    refine hw_region ?_
    refine hq_ 56 (hop_fa fd_109_1 rfl) rfl rfl pre0 rfl rfl ?_
    refine hq_ 57 (HOp.val (v' := intV (e.getD i default).low) (hol_load ty_3 rfl (nb rfl) (nb rfl) (fun h => (by rfl))) (rfl)) rfl rfl (pre1 rfl) rfl rfl ?_
    refine hq_ 58 (hop_eql rfl rfl) rfl rfl pre0 rfl rfl ?_
    refine hq_ 59 (hop_move rfl) rfl rfl pre0 rfl rfl ?_
    refine hq_g 60 3 59 true _ (fun hb => hop_fa fd_109_2 rfl) rfl rfl rfl rfl pre0 rfl rfl rfl ?_
    refine hq_g 61 3 59 true _ (fun hb => HOp.val (v' := intV (e.getD i default).high) (hol_load ty_3 rfl (nb rfl) (nb rfl) (fun h => (by rfl))) (rfl)) rfl rfl rfl rfl (pre1 rfl) rfl rfl rfl ?_
    refine hq_g 62 3 59 true _ (fun hb => hop_eql rfl rfl) rfl rfl rfl rfl pre0 rfl rfl rfl ?_
    refine hq_p 63 (hstep_and _ _ rfl rfl rfl) rfl rfl rfl ?_
    refine hq_ 10 (hop_assign rfl) rfl rfl pre0 rfl rfl ?_
    refine hseq_nilU (by rfl) (by simp only [dropUn, slots]; exact rfl) ?_
    refine h12 _ ?_
    refine hw_seq (fun Nh13 h13 => ?_)
    refine hw_region ?_
    refine hq_ 64 (hop_fa fd_109_0 rfl) rfl rfl pre0 rfl rfl ?_
    refine hq_ 65 (HOp.val (v' := intV (e.getD i default).kind) (hol_load ty_3 rfl (nb rfl) (nb rfl) (fun h => (by rfl))) (rfl)) rfl rfl (pre1 rfl) rfl rfl ?_
    refine hq_ 66 (hop_eql rfl rfl) rfl rfl pre0 rfl rfl ?_
    refine hq_ 67 (hop_move rfl) rfl rfl pre0 rfl rfl ?_
    refine hq_g 68 3 67 true _ (fun hb => hop_move rfl) rfl rfl rfl rfl pre0 rfl rfl rfl ?_
    refine hq_g 69 3 67 true _ (fun hb => hop_eql rfl rfl) rfl rfl rfl rfl pre0 rfl rfl rfl ?_
    refine hq_p 70 (hstep_and _ _ rfl rfl rfl) rfl rfl rfl ?_
    refine hq_ 71 (hop_move rfl) rfl rfl pre0 rfl rfl ?_
    refine hq_g 72 7 71 true _ (fun hb => hop_move rfl) rfl rfl rfl rfl pre0 rfl rfl rfl ?_
    refine hq_p 73 (hstep_and _ _ rfl rfl rfl) rfl rfl rfl ?_
    refine hq_ 74 (hop_move rfl) rfl rfl pre0 rfl rfl ?_
    refine hq_g 75 10 74 true _ (fun hb => hop_move rfl) rfl rfl rfl rfl pre0 rfl rfl rfl ?_
    refine hq_p 76 (hstep_and _ _ rfl rfl rfl) rfl rfl rfl ?_
    refine hq_ 11 (hop_assign rfl) rfl rfl pre0 rfl rfl ?_
    refine hseq_nilU (by rfl) (by simp only [dropUn, slots]; exact rfl) ?_
    refine h13 _ ?_
    refine hw_seq (fun Nh14 h14 => ?_)
    refine hw_region ?_
    refine hq_ 77 (hop_move rfl) rfl rfl pre0 rfl rfl ?_
    refine hq_ 78 (hop_move rfl) rfl rfl pre0 rfl rfl ?_
    refine hq_g 79 1 78 false _ (fun hb => hop_fa fd_109_0 rfl) rfl rfl rfl rfl pre0 rfl rfl rfl ?_
    refine hq_g 80 1 78 false _ (fun hb => HOp.val (v' := intV (e.getD i default).kind) (hol_load ty_3 rfl (nb rfl) (nb rfl) (fun h => (by rfl))) (rfl)) rfl rfl rfl rfl (pre1 rfl) rfl rfl rfl ?_
    refine hq_g 81 1 78 false _ (fun hb => hop_eql rfl rfl) rfl rfl rfl rfl pre0 rfl rfl rfl ?_
    refine hq_g 82 1 78 false _ (fun hb => hop_move rfl) rfl rfl rfl rfl pre0 rfl rfl rfl ?_
    refine hq_g3 83 5 82 78 false false _ _ (fun hb hb2 => hop_fa fd_109_0 rfl) rfl rfl rfl rfl rfl pre0 rfl rfl rfl ?_
    refine hq_g3 84 5 82 78 false false _ _ (fun hb hb2 => HOp.val (v' := intV (e.getD i default).kind) (hol_load ty_3 rfl (nb rfl) (nb rfl) (fun h => (by rfl))) (rfl)) rfl rfl rfl rfl rfl (pre1 rfl) rfl rfl rfl ?_
    refine hq_g3 85 5 82 78 false false _ _ (fun hb hb2 => hop_eql rfl rfl) rfl rfl rfl rfl rfl pre0 rfl rfl rfl ?_
    refine hq_pg 86 (hstep_org (gi := 1) (j := 78) _ _ rfl rfl rfl rfl) rfl rfl rfl rfl ?_
    refine hq_g 87 1 78 false _ (fun hb => hop_move rfl) rfl rfl rfl rfl pre0 rfl rfl rfl ?_
    refine hq_g3 88 10 87 78 false true _ _ (fun hb hb2 => hop_move rfl) rfl rfl rfl rfl rfl pre0 rfl rfl rfl ?_
    refine hq_g3 89 10 87 78 false true _ _ (fun hb hb2 => hop_geq rfl rfl) rfl rfl rfl rfl rfl pre0 rfl rfl rfl ?_
    refine hq_pg 90 (hstep_andg (gi := 1) (j := 78) _ _ rfl rfl rfl rfl) rfl rfl rfl rfl ?_
    refine hq_g 91 1 78 false _ (fun hb => hop_move rfl) rfl rfl rfl rfl pre0 rfl rfl rfl ?_
    refine hq_g3 92 14 91 78 false true _ _ (fun hb hb2 => hop_move rfl) rfl rfl rfl rfl rfl pre0 rfl rfl rfl ?_
    refine hq_pg 93 (hstep_andg (gi := 1) (j := 78) _ _ rfl rfl rfl rfl) rfl rfl rfl rfl ?_
    refine hq_g 94 1 78 false _ (fun hb => hop_move rfl) rfl rfl rfl rfl pre0 rfl rfl rfl ?_
    refine hq_g3 95 17 94 78 false true _ _ (fun hb hb2 => hop_fa fd_109_3 rfl) rfl rfl rfl rfl rfl pre0 rfl rfl rfl ?_
    refine hq_g3 96 17 94 78 false true _ _ (fun hb hb2 => HOp.val (v' := strV (e.getD i default).name) (hol_load ty_9 rfl (nb rfl) (nb rfl) (fun h => (by rfl))) (rfl)) rfl rfl rfl rfl rfl (pre1 rfl) rfl rfl rfl ?_
    refine hq_g3 97 17 94 78 false true _ _ (fun hb hb2 => hop_seq_l rfl rfl) rfl rfl rfl rfl rfl pre0 rfl rfl rfl ?_
    refine hq_pg 98 (hstep_andg (gi := 1) (j := 78) _ _ rfl rfl rfl rfl) rfl rfl rfl rfl ?_
    refine hq_p 99 (hstep_or _ _ rfl rfl rfl) rfl rfl rfl ?_
    refine hq_ 11 (hop_assign rfl) rfl rfl pre0 rfl rfl ?_
    refine hseq_nilU (by rfl) (by simp only [dropUn, slots]; exact rfl) ?_
    refine h14 _ ?_
    refine hw_seq (fun Nh15 h15 => ?_)
    refine hw_region ?_
    refine hq_ 100 (hop_fa fd_109_1 rfl) rfl rfl pre0 rfl rfl ?_
    refine hq_ 101 (HOp.val (v' := intV (e.getD i default).low) (hol_load ty_3 rfl (nb rfl) (nb rfl) (fun h => (by rfl))) (rfl)) rfl rfl (pre1 rfl) rfl rfl ?_
    refine hq_ 102 (hop_geq rfl rfl) rfl rfl pre0 rfl rfl ?_
    refine hq_ 103 (hop_move rfl) rfl rfl pre0 rfl rfl ?_
    refine hq_g 104 3 103 true _ (fun hb => hop_fa fd_109_1 rfl) rfl rfl rfl rfl pre0 rfl rfl rfl ?_
    refine hq_g 105 3 103 true _ (fun hb => HOp.val (v' := intV (e.getD i default).low) (hol_load ty_3 rfl (nb rfl) (nb rfl) (fun h => (by rfl))) (rfl)) rfl rfl rfl rfl (pre1 rfl) rfl rfl rfl ?_
    refine hq_g 106 3 103 true _ (fun hb => hop_leq rfl rfl) rfl rfl rfl rfl pre0 rfl rfl rfl ?_
    refine hq_p 107 (hstep_and _ _ rfl rfl rfl) rfl rfl rfl ?_
    refine hq_ 108 (hop_move rfl) rfl rfl pre0 rfl rfl ?_
    refine hq_g 109 8 108 true _ (fun hb => hop_fa fd_109_2 rfl) rfl rfl rfl rfl pre0 rfl rfl rfl ?_
    refine hq_g 110 8 108 true _ (fun hb => HOp.val (v' := intV (e.getD i default).high) (hol_load ty_3 rfl (nb rfl) (nb rfl) (fun h => (by rfl))) (rfl)) rfl rfl rfl rfl (pre1 rfl) rfl rfl rfl ?_
    refine hq_g 111 8 108 true _ (fun hb => hop_eql rfl rfl) rfl rfl rfl rfl pre0 rfl rfl rfl ?_
    refine hq_g 112 8 108 true _ (fun hb => hop_move rfl) rfl rfl rfl rfl pre0 rfl rfl rfl ?_
    refine hq_g3 113 12 112 108 true false _ _ (fun hb hb2 => hop_fa fd_109_2 rfl) rfl rfl rfl rfl rfl pre0 rfl rfl rfl ?_
    refine hq_g3 114 12 112 108 true false _ _ (fun hb hb2 => HOp.val (v' := intV (e.getD i default).high) (hol_load ty_3 rfl (nb rfl) (nb rfl) (fun h => (by rfl))) (rfl)) rfl rfl rfl rfl rfl (pre1 rfl) rfl rfl rfl ?_
    refine hq_g3 115 12 112 108 true false _ _ (fun hb hb2 => hop_geq rfl rfl) rfl rfl rfl rfl rfl pre0 rfl rfl rfl ?_
    refine hq_g3 116 12 112 108 true false _ _ (fun hb hb2 => hop_move rfl) rfl rfl rfl rfl rfl pre0 rfl rfl rfl ?_
    refine hq_g2 117 16 116 _ _ true _ (fun hb => hop_fa fd_109_2 rfl) rfl rfl rfl rfl pre0 rfl rfl rfl ?_
    refine hq_g2 118 16 116 _ _ true _ (fun hb => HOp.val (v' := intV (e.getD i default).high) (hol_load ty_3 rfl (nb rfl) (nb rfl) (fun h => (by rfl))) (rfl)) rfl rfl rfl rfl (pre1 rfl) rfl rfl rfl ?_
    refine hq_g2 119 16 116 _ _ true _ (fun hb => hop_leq rfl rfl) rfl rfl rfl rfl pre0 rfl rfl rfl ?_
    refine hq_pg 120 (hstep_andg (gi := 12) (j := 112) _ _ rfl rfl rfl rfl) rfl rfl rfl rfl ?_
    refine hq_g3 121 12 112 108 true false _ _ (fun hb hb2 => hop_move rfl) rfl rfl rfl rfl rfl pre0 rfl rfl rfl ?_
    refine hq_g2 122 21 121 _ _ true _ (fun hb => hop_fa fd_109_2 rfl) rfl rfl rfl rfl pre0 rfl rfl rfl ?_
    refine hq_g2 123 21 121 _ _ true _ (fun hb => HOp.val (v' := intV (e.getD i default).high) (hol_load ty_3 rfl (nb rfl) (nb rfl) (fun h => (by rfl))) (rfl)) rfl rfl rfl rfl (pre1 rfl) rfl rfl rfl ?_
    refine hq_g2 124 21 121 _ _ true _ (fun hb => hop_fa fd_109_1 rfl) rfl rfl rfl rfl pre0 rfl rfl rfl ?_
    refine hq_g2 125 21 121 _ _ true _ (fun hb => HOp.val (v' := intV (e.getD i default).low) (hol_load ty_3 rfl (nb rfl) (nb rfl) (fun h => (by rfl))) (rfl)) rfl rfl rfl rfl (pre1 rfl) rfl rfl rfl ?_
    refine hq_g2 126 21 121 _ _ true _ (fun hb => hop_geq rfl rfl) rfl rfl rfl rfl pre0 rfl rfl rfl ?_
    refine hq_pg 127 (hstep_andg (gi := 12) (j := 112) _ _ rfl rfl rfl rfl) rfl rfl rfl rfl ?_
    refine hq_pg 128 (hstep_org (gi := 8) (j := 108) _ _ rfl rfl rfl rfl) rfl rfl rfl rfl ?_
    refine hq_p 129 (hstep_and _ _ rfl rfl rfl) rfl rfl rfl ?_
    refine hq_ 12 (hop_assign rfl) rfl rfl pre0 rfl rfl ?_
    refine hseq_nilU (by rfl) (by simp only [dropUn, slots]; exact rfl) ?_
    refine h15 _ ?_
    refine hw_seq (fun Nh16 h16 => ?_)
    refine hw_region ?_
    refine hq_ 130 (hop_move rfl) rfl rfl pre0 rfl rfl ?_
    refine hq_ 131 (hop_move rfl) rfl rfl pre0 rfl rfl ?_
    refine hq_g 132 1 131 false _ (fun hb => hop_fa fd_109_0 rfl) rfl rfl rfl rfl pre0 rfl rfl rfl ?_
    refine hq_g 133 1 131 false _ (fun hb => HOp.val (v' := intV (e.getD i default).kind) (hol_load ty_3 rfl (nb rfl) (nb rfl) (fun h => (by rfl))) (rfl)) rfl rfl rfl rfl (pre1 rfl) rfl rfl rfl ?_
    refine hq_g 134 1 131 false _ (fun hb => hop_eql rfl rfl) rfl rfl rfl rfl pre0 rfl rfl rfl ?_
    refine hq_g 135 1 131 false _ (fun hb => hop_move rfl) rfl rfl rfl rfl pre0 rfl rfl rfl ?_
    refine hq_g3 136 5 135 131 false true _ _ (fun hb hb2 => hop_move rfl) rfl rfl rfl rfl rfl pre0 rfl rfl rfl ?_
    refine hq_g3 137 5 135 131 false true _ _ (fun hb hb2 => hop_eql rfl rfl) rfl rfl rfl rfl rfl pre0 rfl rfl rfl ?_
    refine hq_pg 138 (hstep_andg (gi := 1) (j := 131) _ _ rfl rfl rfl rfl) rfl rfl rfl rfl ?_
    refine hq_g 139 1 131 false _ (fun hb => hop_move rfl) rfl rfl rfl rfl pre0 rfl rfl rfl ?_
    refine hq_g3 140 9 139 131 false true _ _ (fun hb hb2 => hop_move rfl) rfl rfl rfl rfl rfl pre0 rfl rfl rfl ?_
    refine hq_pg 141 (hstep_andg (gi := 1) (j := 131) _ _ rfl rfl rfl rfl) rfl rfl rfl rfl ?_
    refine hq_g 142 1 131 false _ (fun hb => hop_move rfl) rfl rfl rfl rfl pre0 rfl rfl rfl ?_
    refine hq_g3 143 12 142 131 false true _ _ (fun hb hb2 => hop_fa fd_109_3 rfl) rfl rfl rfl rfl rfl pre0 rfl rfl rfl ?_
    refine hq_g3 144 12 142 131 false true _ _ (fun hb hb2 => HOp.val (v' := strV (e.getD i default).name) (hol_load ty_9 rfl (nb rfl) (nb rfl) (fun h => (by rfl))) (rfl)) rfl rfl rfl rfl rfl (pre1 rfl) rfl rfl rfl ?_
    refine hq_g3 145 12 142 131 false true _ _ (fun hb hb2 => hop_seq_l rfl rfl) rfl rfl rfl rfl rfl pre0 rfl rfl rfl ?_
    refine hq_pg 146 (hstep_andg (gi := 1) (j := 131) _ _ rfl rfl rfl rfl) rfl rfl rfl rfl ?_
    refine hq_p 147 (hstep_or _ _ rfl rfl rfl) rfl rfl rfl ?_
    refine hq_ 11 (hop_assign rfl) rfl rfl pre0 rfl rfl ?_
    refine hseq_nilU (by rfl) (by simp only [dropUn, slots]; exact rfl) ?_
    refine h16 _ ?_
    refine hw_seq (fun Nh17 h17 => ?_)
    refine hw_region ?_
    refine hq_ 148 (hop_move rfl) rfl rfl pre0 rfl rfl ?_
    refine hq_ 149 (hop_not rfl) rfl rfl pre0 rfl rfl ?_
    refine hseq_nil ?_
    refine h17 _ ?_
    refine hw_cond _ rfl (fun hc1 => ?_) (fun hc1 => ?_)
    · have hr1 := hc1; (try simp only [hcs, Int.reduceToNat] at hc1)
      have hal := hr1; rw [ref_big hN] at hal
      refine hw_seq (fun Nh18 h18 => ?_)
      refine hw_region ?_
      refine hq_ 2 (hop_assign rfl) rfl rfl pre0 rfl rfl ?_
      refine hseq_nil ?_
      refine h18 _ ?_
      refine hw_ret ?_
      refine hq_block_ret ?_
      refine hq_then_ret ?_
      refine hq_then_ret ?_
      refine hq_block_ret ?_
      refine hq_then_ret ?_
      refine hq_ret1 rfl (rval_tmp rfl) [] rfl pre0 ?_
      rw [fine_no hil (by simpa using hal)]; exact .imm _
    · have hr1 := hc1; (try simp only [hcs, Int.reduceToNat] at hc1)
      have hal := hr1; rw [ref_big hN] at hal; simp only [hcs] at hal
      refine hw_skip ?_
      refine hq_block ?_
      refine h7 _ ?_
      refine hw_region ?_
      refine hq_ 17 (hop_move rfl) rfl rfl pre0 rfl rfl ?_
      refine hq_ 18 (hop_addi rfl rfl rfl (by omega) (by omega)) rfl rfl pre0 rfl rfl ?_
      refine hq_ 3 (hop_assign rfl) rfl rfl pre0 rfl rfl ?_
      refine hseq_nil ?_
      exact hL4 (i + 1) _ _ (by (try dsimp only); exact ⟨by omega, fun j hj => by by_cases e' : j = i; (· subst e'; exact hal); exact hE j (by omega)⟩) (by (try dsimp only); omega) (hsub_of rfl (Nat.le_refl _) (TmSub.cons rfl (Sb.refl _) (TmSub.cons rfl (Sb.refl _) TmSub.nil)) HpSub.nil)
  · have hr0 := hc0; (try simp only [hcs, Int.reduceToNat] at hc0)
    refine hw_exit ?_
    refine hq_then_exit ?_
    refine hq_then_exit ?_
    refine hq_block_here ?_
    refine h2 _ ?_
    refine hw_seq (fun Nh19 h19 => ?_)
    have hall := fine_yes (fun j hj => hE j (by omega))
    refine hw_region ?_
    refine hq_ 150 (hop_move rfl) rfl rfl pre0 rfl rfl ?_
    refine hq_ 151 (hop_len_sl (T := 55) rfl (elOf_spec el_55).1 rfl) rfl rfl pre0 rfl rfl ?_
    refine hq_ 152 (hop_eql rfl rfl) rfl rfl pre0 rfl rfl ?_
    refine hq_ 153 (hop_move rfl) rfl rfl pre0 rfl rfl ?_
    refine hq_g 154 3 153 false _ (fun hb => hop_move rfl) rfl rfl rfl rfl pre0 rfl rfl rfl ?_
    refine hq_g 155 3 153 false _ (fun hb => hop_move rfl) rfl rfl rfl rfl pre0 rfl rfl rfl ?_
    refine hq_g 156 3 153 false _ (fun hb => hop_len_sl (T := 55) rfl (elOf_spec el_55).1 rfl) rfl rfl rfl rfl pre0 rfl rfl rfl ?_
    refine hq_g 157 3 153 false _ (fun hb => HOp.val (v' := intV ((e.length - 1 : Nat) : Int)) (hop_subi rfl rfl rfl (by (simp at hb; first | omega | (dsimp only; omega) | (simp <;> omega))) (by (simp at hb; first | omega | (dsimp only; omega) | (simp <;> omega)))) (congrArg intV (len_sub hb))) rfl rfl rfl rfl pre0 rfl rfl rfl ?_
    refine hq_g 158 3 153 false _ (fun hb => hop_call0 (xs := [_, _]) (whole_h e he e.length (e.length - 1) (len_lt hb) (len_lt hb)) ⟨rfl, ⟨rfl, trivial⟩⟩ ⟨(Fz.eq rfl), ⟨(Fz.eq rfl), trivial⟩⟩) rfl rfl rfl rfl pre0 rfl rfl rfl ?_
    refine hq_g 159 3 153 false _ (fun hb => hop_eql rfl rfl) rfl rfl rfl rfl pre0 rfl rfl rfl ?_
    refine hq_p 160 (hstep_or _ _ rfl rfl rfl) rfl rfl rfl ?_
    refine hq_ 2 (hop_assign rfl) rfl rfl pre0 rfl rfl ?_
    refine hseq_nilU (by rfl) (by simp only [dropUn, slots]; exact rfl) ?_
    refine h19 _ ?_
    refine hw_ret ?_
    refine hq_ret1 rfl (rval_tmp rfl) [] rfl pre0 ?_
    exact fz_bool (by unfold refRightV; rw [hall]; simp only [beq_d, int_0, Bool.true_and])
end Go.Proofs.YtijpdbjcmnpobaaDoor

namespace Go.Proofs.YtijpdbjcmnpobaaDoor
set_option linter.unusedSimpArgs false
set_option linter.unusedVariables false
set_option maxRecDepth 100000
set_option maxHeartbeats 1000000
open Go.RowKit

theorem showNil_h : HPure Tryd.prog 35 [ptsV []] (strV []) := by
  have hR := right_h [] ⟨Nat.zero_le _, fun i hi => absurd hi (Nat.not_lt_zero _)⟩
  refine hpure_of Tryd.func35 rfl (by kernel_rfl) _ _ _ rfl 25 rfl rfl (fun w F => ?_)
  refine hw_seq (fun Nh1 h1 => ?_)
  refine hw_region ?_
  refine hq_ 2 (hop_assign rfl) rfl rfl pre0 rfl rfl ?_
  refine hseq_nil ?_
  refine h1 _ ?_
  refine hw_seq (fun Nh2 h2 => ?_)
  refine hw_seq (fun Nh3 h3 => ?_)
  refine hw_region ?_
  refine hq_ 4 (hop_move rfl) rfl rfl pre0 rfl rfl ?_
  refine hq_ 5 (hop_len_sl (T := 52) rfl (elOf_spec el_52).1 rfl) rfl rfl pre0 rfl rfl ?_
  refine hq_ 6 (hop_eql rfl rfl) rfl rfl pre0 rfl rfl ?_
  refine hq_ 7 (hop_move rfl) rfl rfl pre0 rfl rfl ?_
  refine hq_g 8 3 7 false _ (fun hb => hop_move rfl) rfl rfl rfl rfl pre0 rfl rfl rfl ?_
  refine hq_g 9 3 7 false _ (fun hb => hop_call0 (xs := [_]) (hR) ⟨rfl, trivial⟩ ⟨(Fz.eq rfl), trivial⟩) rfl rfl rfl rfl pre0 rfl rfl rfl ?_
  refine hq_g 10 3 7 false _ (fun hb => hop_not rfl) rfl rfl rfl rfl pre0 rfl rfl rfl ?_
  refine hq_p 11 (hstep_and _ _ rfl rfl rfl) rfl rfl rfl ?_
  refine hseq_nilU (by rfl) (by simp only [dropUn, slots]; exact rfl) ?_
  refine h3 _ ?_
  refine hw_cond _ rfl (fun hc0 => ?_) (fun hc0 => ?_)
  · have hr0 := hc0; (try simp only [hcs, Int.reduceToNat] at hc0)
    refine hw_seq (fun Nh4 h4 => ?_)
    refine hw_region ?_
    refine hq_ 2 (hop_assign rfl) rfl rfl pre0 rfl rfl ?_
    refine hseq_nil ?_
    refine h4 _ ?_
    refine hw_ret ?_
    refine hq_then_ret ?_
    refine hq_ret1 rfl (rval_tmp rfl) [] rfl pre0 ?_
    exact .imm _
  · have hr0 := hc0; (try simp only [hcs, Int.reduceToNat] at hc0)
    exfalso; have h := hr0; simp at h
theorem few_B {e : List Pt} (h : fewV e = true) : PtB e := by
  have := few_at h
  refine ⟨by omega, fun i hi => ?_⟩
  have := this.2 i hi
  omega
theorem parse_nil {r : List Pt × Int × Int} (h : ParseIs [] r) : r.1 = [] ∧ r.2.2 = 0 := by
  have h0 : lexV [] = .ok [] := rfl
  cases h with
  | err e hv => rw [h0] at hv; cases hv
  | none hv => exact ⟨rfl, rfl⟩
  | odd l q hv hne _ _ => rw [h0] at hv; injection hv with hv; exact absurd hv.symm hne
  | end_ l hv hne _ => rw [h0] at hv; injection hv with hv; exact absurd hv.symm hne
  | ok l t hv hs => rw [h0] at hv; injection hv with hv; subst hv; have := seg_lt hs; simp at this
theorem parse_tree {t : T} {l : List Sg} {r : List Pt × Int × Int} {s : List UInt8} (hl : lexV s = .ok l) (hs : Seg l 3 0 l.length t) (h : ParseIs s r) : r = (T.flat 0 t, 0, 0) := by
  have hne : l ≠ [] := fun h => by subst h; have := seg_lt hs; simp at this
  have hc : chk l 0 0 true true = (-1, false) := all_good hs
  cases h with
  | err e hv => rw [hl] at hv; cases hv
  | none hv => rw [hl] at hv; injection hv with hv; exact absurd hv hne
  | odd l' q hv _ _ hq => rw [hl] at hv; injection hv with hv; subst hv; rw [hc] at hq; injection hq with hq _; exact absurd hq (by omega)
  | end_ l' hv _ hq => rw [hl] at hv; injection hv with hv; subst hv; rw [hc] at hq; injection hq with _ hq; cases hq
  | ok l' t' hv hs' => rw [hl] at hv; injection hv with hv; subst hv; rw [seg_one hs' hs]
theorem back_all {e : List Pt} (hf : fewV e = true) (hr : refRightV e = true) : ∃ s : List UInt8, HPure Tryd.prog 35 [ptsV e] (strV s) ∧ s.length ≤ 1000000 ∧ ∀ r, ParseIs s r → (r.1 = e ∧ r.2.2 = 0) ∨ (40 < e.length ∧ r.2.2 = 4) := by
  have hfew := few_at hf
  rcases right_tree hr with rfl | ⟨t, hok, rfl⟩
  · exact ⟨[], showNil_h, Nat.zero_le _, fun r h => .inl (parse_nil h)⟩
  · have hl := hfew.1
    rw [T.flat_len] at hl
    have hsl := sig_len t hok
    refine ⟨showL t.sig, exprShow_h t hok (by omega), ?_, fun r h => ?_⟩
    · have := showG_len (l := t.sig) (f := true) (sig_W t hok)
      show (showG true t.sig).length ≤ _
      omega
    · rcases parse_show hok with ⟨_, l', e, hs⟩ | ⟨h2, i, e⟩
      · left; rw [parse_tree e hs h]; exact ⟨rfl, rfl⟩
      · right
        refine ⟨by rw [T.flat_len]; omega, ?_⟩
        cases h with
        | err e' hv => rw [e] at hv; injection hv with hv; subst hv; rfl
        | none hv => rw [e] at hv; cases hv
        | odd _ _ hv _ _ _ => rw [e] at hv; cases hv
        | end_ _ hv _ _ => rw [e] at hv; cases hv
        | ok _ _ hv _ => rw [e] at hv; cases hv
theorem exprBack_h (e : List Pt) : HPure Tryd.prog 10 [ptsV e] (boolV true) := by
  refine hpure_of Tryd.func10 rfl (by kernel_rfl) _ _ _ rfl 42 rfl rfl (fun w F => ?_)
  refine hw_seq (fun Nh1 h1 => ?_)
  refine hw_region ?_
  refine hq_ 2 (hop_assign rfl) rfl rfl pre0 rfl rfl ?_
  refine hseq_nil ?_
  refine h1 _ ?_
  refine hw_seq (fun Nh2 h2 => ?_)
  refine hw_seq (fun Nh3 h3 => ?_)
  refine hw_region ?_
  refine hq_ 6 (hop_move rfl) rfl rfl pre0 rfl rfl ?_
  refine hq_ 7 (hop_call0 (xs := [_]) (few_h e) ⟨rfl, trivial⟩ ⟨(Fz.eq rfl), trivial⟩) rfl rfl pre0 rfl rfl ?_
  refine hq_ 8 (hop_not rfl) rfl rfl pre0 rfl rfl ?_
  refine hq_ 9 (hop_move rfl) rfl rfl pre0 rfl rfl ?_
  refine hq_g 10 3 9 false _ (fun hb => hop_move rfl) rfl rfl rfl rfl pre0 rfl rfl rfl ?_
  refine hq_g 11 3 9 false _ (fun hb => hop_call0 (xs := [_]) (refRight_h e (few_B (by simpa using hb))) ⟨rfl, trivial⟩ ⟨(Fz.eq rfl), trivial⟩) rfl rfl rfl rfl pre0 rfl rfl rfl ?_
  refine hq_g 12 3 9 false _ (fun hb => hop_not rfl) rfl rfl rfl rfl pre0 rfl rfl rfl ?_
  refine hq_p 13 (hstep_or _ _ rfl rfl rfl) rfl rfl rfl ?_
  refine hseq_nilU (by rfl) (by simp only [dropUn, slots]; exact rfl) ?_
  refine h3 _ ?_
  refine hw_cond _ rfl (fun hc0 => ?_) (fun hc0 => ?_)
  · have hr0 := hc0; (try simp only [hcs, Int.reduceToNat] at hc0)
    refine hw_seq (fun Nh4 h4 => ?_)
    refine hw_region ?_
    refine hq_ 14 (hop_call0 (xs := []) (live6_h) trivial trivial) rfl rfl pre0 rfl rfl ?_
    refine hq_ 2 (hop_assign rfl) rfl rfl pre0 rfl rfl ?_
    refine hseq_nil ?_
    refine h4 _ ?_
    refine hw_ret ?_
    refine hq_then_ret ?_
    refine hq_ret1 rfl (rval_tmp rfl) [] rfl pre0 ?_
    exact .imm _
  · have hr0 := hc0; (try simp only [hcs, Int.reduceToNat] at hc0)
    have hf : fewV e = true := (by have h := hr0; simp at h; exact h.1); have hrt : refRightV e = true := (by have h := hr0; simp at h; exact h.2); have hB := few_B hf; obtain ⟨s, hsh, hsl, hpr⟩ := back_all hf hrt
    refine hw_skip ?_
    refine h2 _ ?_
    refine hw_seq (fun Nh5 h5 => ?_)
    refine hw_region ?_
    refine hq_ 16 (hop_move rfl) rfl rfl pre0 rfl rfl ?_
    refine hq_ 17 (hop_call0 (xs := [_]) (theirs_h e hB.1) ⟨rfl, trivial⟩ ⟨(Fz.eq rfl), trivial⟩) rfl rfl pre0 rfl rfl ?_
    refine hq_ 18 (hop_call0 (xs := [_]) (hsh) ⟨rfl, trivial⟩ ⟨(Fz.eq rfl), trivial⟩) rfl rfl pre0 rfl rfl ?_
    refine hf_callR 19 (xs := [_]) (pre := []) (parse_h _ s hsl) ⟨rfl, trivial⟩ pre0 rfl rfl (fun r c1 hr => ?_)
    (try dsimp only)
    refine hq_ 15 (hop_move rfl) rfl rfl pre0 rfl rfl ?_
    refine hq_ 20 (hop_extract rfl rfl) rfl rfl pre0 rfl rfl ?_
    refine hq_ 21 (hop_extract rfl rfl) rfl rfl pre0 rfl rfl ?_
    refine hq_ 22 (hop_extract rfl rfl) rfl rfl pre0 rfl rfl ?_
    refine hq_ 3 (hop_assign rfl) rfl rfl pre0 rfl rfl ?_
    refine hq_ 4 (hop_assign rfl) rfl rfl pre0 rfl rfl ?_
    refine hq_ 5 (hop_assign rfl) rfl rfl pre0 rfl rfl ?_
    refine hseq_nil ?_
    refine h5 _ ?_
    refine hw_seq (fun Nh6 h6 => ?_)
    refine hw_seq (fun Nh7 h7 => ?_)
    have hwh := hpr r hr; have hBr := (parse_right hr).1
    refine hw_region ?_
    refine hq_ 23 (hop_move rfl) rfl rfl pre0 rfl rfl ?_
    refine hq_ 24 (hop_eql rfl rfl) rfl rfl pre0 rfl rfl ?_
    refine hseq_nil ?_
    refine h7 _ ?_
    refine hw_cond _ rfl (fun hc1 => ?_) (fun hc1 => ?_)
    · have hr1 := hc1; (try simp only [hcs, Int.reduceToNat] at hc1)
      refine hw_seq (fun Nh8 h8 => ?_)
      refine hw_region ?_
      refine hq_ 25 (hop_move rfl) rfl rfl pre0 rfl rfl ?_
      refine hq_ 26 (hop_len_sl (T := 55) rfl (elOf_spec el_55).1 rfl) rfl rfl pre0 rfl rfl ?_
      refine hq_ 27 (hop_gtr rfl rfl) rfl rfl pre0 rfl rfl ?_
      refine hq_ 28 (hop_move rfl) rfl rfl pre0 rfl rfl ?_
      refine hq_g 29 3 28 true _ (fun hb => hop_call0 (xs := []) (live6_h) trivial trivial) rfl rfl rfl rfl pre0 rfl rfl rfl ?_
      refine hq_p 30 (hstep_and _ _ rfl rfl rfl) rfl rfl rfl ?_
      refine hq_ 2 (hop_assign rfl) rfl rfl pre0 rfl rfl ?_
      refine hseq_nilU (by rfl) (by simp only [dropUn, slots]; exact rfl) ?_
      refine h8 _ ?_
      refine hw_ret ?_
      refine hq_then_ret ?_
      refine hq_ret1 rfl (rval_tmp rfl) [] rfl pre0 ?_
      exact fz_bool (by have : (40 : Int) < e.length := (by omega); simp [this])
    · have hr1 := hc1; (try simp only [hcs, Int.reduceToNat] at hc1)
      obtain ⟨hre, hr0⟩ : r.1 = e ∧ r.2.2 = 0 := (by rcases hwh with h | h; exact h; exact absurd h.2 hc1)
      refine hw_skip ?_
      refine h6 _ ?_
      refine hw_seq (fun Nh9 h9 => ?_)
      refine hw_region ?_
      refine hq_ 31 (hop_move rfl) rfl rfl pre0 rfl rfl ?_
      refine hq_ 32 (hop_eql rfl rfl) rfl rfl pre0 rfl rfl ?_
      refine hq_ 33 (hop_move rfl) rfl rfl pre0 rfl rfl ?_
      refine hq_g 34 2 33 true _ (fun hb => hop_move rfl) rfl rfl rfl rfl pre0 rfl rfl rfl ?_
      refine hq_g 35 2 33 true _ (fun hb => hop_call0 (xs := [_]) (ours_h r.1 hBr.1) ⟨rfl, trivial⟩ ⟨(Fz.eq rfl), trivial⟩) rfl rfl rfl rfl pre0 rfl rfl rfl ?_
      refine hq_g 36 2 33 true _ (fun hb => hop_move rfl) rfl rfl rfl rfl pre0 rfl rfl rfl ?_
      refine hq_g 37 2 33 true _ (fun hb => hop_call0 (xs := [_, _]) (samePts_h r.1 e hBr hB) ⟨rfl, ⟨rfl, trivial⟩⟩ ⟨(Fz.eq rfl), ⟨(Fz.eq rfl), trivial⟩⟩) rfl rfl rfl rfl pre0 rfl rfl rfl ?_
      refine hq_p 38 (hstep_and _ _ rfl rfl rfl) rfl rfl rfl ?_
      refine hq_ 39 (hop_move rfl) rfl rfl pre0 rfl rfl ?_
      refine hq_g 40 8 39 true _ (fun hb => hop_call0 (xs := []) (live6_h) trivial trivial) rfl rfl rfl rfl pre0 rfl rfl rfl ?_
      refine hq_p 41 (hstep_and _ _ rfl rfl rfl) rfl rfl rfl ?_
      refine hq_ 2 (hop_assign rfl) rfl rfl pre0 rfl rfl ?_
      refine hseq_nilU (by rfl) (by simp only [dropUn, slots]; exact rfl) ?_
      refine h9 _ ?_
      refine hw_ret ?_
      refine hq_ret1 rfl (rval_tmp rfl) [] rfl pre0 ?_
      exact fz_bool (by rw [hre, hr0]; simp)
end Go.Proofs.YtijpdbjcmnpobaaDoor

namespace Go.Proofs.YtijpdbjcmnpobaaDoor
set_option linter.unusedSimpArgs false
set_option linter.unusedVariables false
open Go.ChangeShapes Go.WideShapes Go.ChangeAt Go.RowKit Go.Deep

section
variable {H : Type} {encH : TypeId × Value → H} {P : Program} {w : World} {base : Nat} {spare : Nat → Bool} {held : Bool}

/-- A slice that came in, element by element. -/
theorem open_sl {α : Type} {t e : TypeId} {fuel : Nat} {A : Option Addr} {n c : Nat} {x : DataW H × List MemPlace} (ht : P.underlying t = some (.slice e)) (size : Nat) (hC : P.cellsOf e = size) (hpos : 0 < size)
    (enc : α → List Value) (henc : ∀ a, (enc a).length = size) (ok : α → Prop)
    (hel : ∀ (m : Nat) (cs : List Value) (y : DataW H × List MemPlace), DataW.trod encH P w base spare held m e cs = some y → ∃ a : α, cs = enc a ∧ ok a)
    (hf : DataW.trod encH P w base spare held fuel t [.slice A n c] = some x) :
    ∃ l : List α, l.length = n ∧ Sl w w.heap.size size enc A l ∧ n ≤ c ∧ c ≤ 9223372036854775807 ∧ ∀ a ∈ l, ok a := by
  rcases open_slice ht hf with ⟨h0, _⟩ | ⟨a, len, cap, m, k, D, Pl, hcs, hb, hl, hm, hmm, hx, hi⟩
  · injection h0 with h0 _
    injection h0 with h1 h2 h3
    subst h1; subst h2; subst h3
    exact ⟨[], rfl, ⟨henc, Reads.none_⟩, by omega, by omega, by simp⟩
  · injection hcs with h0 _
    injection h0 with h1 h2 h3
    subst h1; subst h2; subst h3
    have hnm : n ≤ m := by rw [hmm]; split <;> omega
    have each : ∀ k, k ≤ n → ∃ l : List α, l.length = k ∧ (∀ i (hi : i < l.length), w.cells? base (a.add (i * size)) size = some (enc l[i])) ∧ ∀ y ∈ l, ok y := by
      intro k
      induction k with
      | zero => intro _; exact ⟨[], rfl, fun i hi => by simp at hi, by simp⟩
      | succ k ih =>
        intro hk
        obtain ⟨l, hl1, hl2, hl3⟩ := ih (by omega)
        obtain ⟨cs', h1, h2⟩ := hi k (by omega)
        rw [hC] at h1
        obtain ⟨a', rfl, hok⟩ := hel _ _ _ h2
        refine ⟨l ++ [a'], by simp [hl1], fun i hi => ?_, fun y hy => ?_⟩
        · by_cases hik : i < l.length
          · rw [List.getElem_append_left hik]; exact hl2 i hik
          · have : i = k := by simp at hi; omega
            subst this
            simp [hl1, h1]
        · rcases List.mem_append.1 hy with hy | hy
          · exact hl3 y hy
          · simp at hy; subst hy; exact hok
    obtain ⟨l, hl1, hl2, hl3⟩ := each n (Nat.le_refl _)
    refine ⟨l, hl1, ⟨henc, ?_, fun hn => ?_⟩, hl, by unfold maxLen at hm; omega, hl3⟩
    · have : ∀ m : List α, (m.flatMap enc).length = m.length * size := by
        intro m
        induction m with
        | nil => simp
        | cons x m ih => simp [List.flatMap_cons, ih, henc, Nat.add_mul, Nat.add_comm]
      exact this l
    · refine ⟨a, rfl, ?_, fun j u hu => ?_⟩
      · have h0 := hl2 0 hn
        have := World.cells?_block h0 hpos
        rwa [block_of_add] at this
      · have hfl : (l.flatMap enc).length = l.length * size := by
          have : ∀ m : List α, (m.flatMap enc).length = m.length * size := by
            intro m
            induction m with
            | nil => simp
            | cons x m ih => simp [List.flatMap_cons, ih, henc, Nat.add_mul, Nat.add_comm]
          exact this l
        have hj : j < l.length * size := by
          rcases Nat.lt_or_ge j (l.flatMap enc).length with hlt | hge
          · rw [hfl] at hlt; exact hlt
          · rw [List.getElem?_eq_none hge] at hu; cases hu
        have hjd : j / size < l.length := (Nat.div_lt_iff_lt_mul hpos).2 hj
        have hjm : j % size < size := Nat.mod_lt _ hpos
        have e1 : j = j / size * size + j % size := by rw [Nat.mul_comm]; exact (Nat.div_add_mod j size).symm
        rw [e1] at hu ⊢
        rw [flatMap_at henc _ _ _ hjd hjm] at hu
        have := (World.cells?_some (hl2 _ hjd)).2.2 (j % size) hjm
        rw [add_of_add] at this
        rw [this, hu]

def okInt (x : Int) : Prop := (Lit.int .i64 x).wf = true
theorem el_int {e : TypeId} (he : P.underlying e = some (.int .i64)) (m : Nat) (cs : List Value) (y : DataW H × List MemPlace) (h : DataW.trod encH P w base spare held m e cs = some y) : ∃ a : Int, cs = intC a ∧ okInt a := by
  obtain ⟨b, rfl, _, hw⟩ := DataW.trod_int he h
  exact ⟨b, rfl, hw⟩
end
end Go.Proofs.YtijpdbjcmnpobaaDoor

namespace Go.Proofs.YtijpdbjcmnpobaaDoor
set_option linter.unusedSimpArgs false
set_option linter.unusedVariables false
open Go.ChangeShapes Go.WideShapes Go.ChangeAt Go.RowKit Go.Deep
/-- A part, as it comes in: what it says, and where its kids lie. -/
structure PtI where
  v : Pt
  A : Option Addr
  n : Nat
  c : Nat
def PtI.cells (x : PtI) : List Value := [.int .i64 x.v.kind, .int .i64 x.v.low, .int .i64 x.v.high, .string ⟨x.v.name.toArray⟩, .slice x.A x.n x.c]
def PtI.none : PtI := ⟨default, .none, 0, 0⟩
theorem PtI.cells_length (x : PtI) : x.cells.length = 5 := by simp [PtI.cells]
def PtI.inOk (w : World) (x : PtI) : Prop := x.v.kids.length = x.n ∧ Sl w w.heap.size 1 intC x.A x.v.kids ∧ x.n ≤ x.c ∧ x.c ≤ 9223372036854775807
theorem pti_one (x : PtI) : ∀ u ∈ x.cells, u.oneCell' = true := by
  intro u hu
  simp only [PtI.cells, List.mem_cons, List.not_mem_nil, or_false] at hu
  rcases hu with rfl | rfl | rfl | rfl | rfl <;> rfl
section
variable {H : Type} {encH : TypeId × Value → H} {w : World} {base : Nat} {spare : Nat → Bool} {held : Bool}
theorem slice_form {P : Program} {t e : TypeId} (ht : P.underlying t = some (.slice e)) {fuel : Nat} {v : Value} {x : DataW H × List MemPlace} (hf : DataW.trod encH P w base spare held fuel t [v] = some x) : ∃ A n c, v = .slice A n c := by
  rcases open_slice ht hf with ⟨h0, _⟩ | ⟨a, len, cap, m, k, D, Pl, hcs, _⟩
  · injection h0 with h0 _; exact ⟨_, _, _, h0⟩
  · injection hcs with h0 _; exact ⟨_, _, _, h0⟩
set_option maxRecDepth 100000 in
theorem el_pt (m : Nat) (cs : List Value) (y : DataW H × List MemPlace) (h : DataW.trod encH Tryd.prog w base spare held m 109 cs = some y) : ∃ t : PtI, cs = t.cells ∧ t.inOk w := by
  obtain ⟨xs, k, _, _, hlen, hxl, hx⟩ := DataW.trod_struct Tryd.underlying109 h
  have hC : Tryd.prog.cellsOf 109 = 5 := by kernel_rfl
  have hI : Tryd.prog.cellsOf 3 = 1 := by kernel_rfl
  have hS : Tryd.prog.cellsOf 9 = 1 := by kernel_rfl
  have hK : Tryd.prog.cellsOf 98 = 1 := by kernel_rfl
  rw [hC] at hlen
  match cs, hlen, xs, hxl with
  | [c0, c1, c2, c3, c4], _, [x0, x1, x2, x3, x4], _ =>
    have f0 : DataW.trod encH Tryd.prog w base spare held k 3 (([c0, c1, c2, c3, c4].drop 0).take (Tryd.prog.cellsOf 3)) = [x0, x1, x2, x3, x4][0]? := hx 0 _ rfl
    have f1 : DataW.trod encH Tryd.prog w base spare held k 3 (([c0, c1, c2, c3, c4].drop 1).take (Tryd.prog.cellsOf 3)) = [x0, x1, x2, x3, x4][1]? := hx 1 _ rfl
    have f2 : DataW.trod encH Tryd.prog w base spare held k 3 (([c0, c1, c2, c3, c4].drop 2).take (Tryd.prog.cellsOf 3)) = [x0, x1, x2, x3, x4][2]? := hx 2 _ rfl
    have f3 : DataW.trod encH Tryd.prog w base spare held k 9 (([c0, c1, c2, c3, c4].drop 3).take (Tryd.prog.cellsOf 9)) = [x0, x1, x2, x3, x4][3]? := hx 3 _ rfl
    have f4 : DataW.trod encH Tryd.prog w base spare held k 98 (([c0, c1, c2, c3, c4].drop 4).take (Tryd.prog.cellsOf 98)) = [x0, x1, x2, x3, x4][4]? := hx 4 _ rfl
    rw [hI] at f0 f1 f2
    rw [hS] at f3
    rw [hK] at f4
    obtain ⟨a0, h0, _, _⟩ := DataW.trod_int Tryd.underlying3 f0
    obtain ⟨a1, h1, _, _⟩ := DataW.trod_int Tryd.underlying3 f1
    obtain ⟨a2, h2, _, _⟩ := DataW.trod_int Tryd.underlying3 f2
    obtain ⟨b3, h3, _, _⟩ := DataW.trod_string Tryd.underlying9 f3
    simp at h0 h1 h2 h3
    subst h0; subst h1; subst h2; subst h3
    simp only [List.drop_succ_cons, List.drop_zero, List.take_succ_cons, List.take_zero] at f4
    obtain ⟨A, n, c, rfl⟩ := slice_form Tryd.underlying98 f4
    obtain ⟨l, e, s, o, m', _⟩ := open_sl Tryd.underlying98 1 (by kernel_rfl) (by omega) intC (fun a => by simp [intC]) okInt (el_int Tryd.underlying3) f4
    exact ⟨⟨⟨a0, a1, a2, b3.data.toList, l⟩, A, n, c⟩, rfl, e, s, o, m'⟩
end
theorem intC_one (x : Int) : ∀ u ∈ intC x, u.oneCell' = true := by
  intro u hu
  simp only [intC, List.mem_cons, List.not_mem_nil, or_false] at hu
  subst hu; rfl
theorem rep_kids {w : World} {B : Nat} {A : Option Addr} {c : Nat} {l : List Int} (h : Sl w B 1 intC A l) (hc : l.length ≤ c) (hm : c ≤ maxLen) : Rep w (Env.just (allF w)) (.slice A l.length c) (kidsV l) :=
  rep_sl 1 (by omega) intC intC_one (fun x _ => intV x) 0 l hc hm h (fun i j _ hj => by
    match j, hj with
    | 0, _ => exact .imm _)
theorem rep_pts {w : World} {B : Nat} {A : Option Addr} {c : Nat} {l : List PtI} (h : Sl w B 5 PtI.cells A l) (hc : l.length ≤ c) (hm : c ≤ maxLen) (hok : ∀ x ∈ l, x.inOk w) : Rep w (Env.just (allF w)) (.slice A l.length c) (ptsV (l.map (·.v))) := by
  have key := rep_sl (w := w) 5 (by omega) PtI.cells pti_one (fun x => ptF x.v) PtI.none l hc hm h (fun i j hi hj => by
    have hg : l.getD i PtI.none = l[i] := by rw [List.getD_eq_getElem?_getD, List.getElem?_eq_getElem hi]; rfl
    rw [hg]
    obtain ⟨e, s, o, m⟩ := hok _ (List.getElem_mem hi)
    generalize l[i] = x at e s o m
    obtain ⟨v, A', n', c'⟩ := x
    simp only at e s o m
    subst e
    match j, hj with
    | 0, _ => exact .imm _
    | 1, _ => exact .imm _
    | 2, _ => exact .imm _
    | 3, _ => exact .imm _
    | 4, _ => exact rep_kids s o (by unfold maxLen; omega))
  have e : ptsV (l.map (·.v)) = .sl 5 l.length (fun i => ptF (l.getD i PtI.none).v) := by
    show HV.sl 5 (l.map (·.v)).length (ptsF (l.map (·.v))) = _
    rw [List.length_map]
    congr 1
    funext i
    show ptF ((l.map (·.v)).getD i default) = _
    congr 1
    rw [List.getD_eq_getElem?_getD, List.getD_eq_getElem?_getD, List.getElem?_map]
    cases l[i]? <;> rfl
  rw [e]; exact key
theorem ExprBack_walk (W : World) (hL : LibW W) (a : Option Addr) (n c : Nat) (l : List PtI) (hn : l.length = n) (sl : Sl W W.heap.size 5 PtI.cells a l) (hc : n ≤ c) (hm : c ≤ 9223372036854775807) (hok : ∀ x ∈ l, x.inOk W) :
    Calls Tryd.prog 10 #[.slice a n c] W fun e w' => e = .returned (.bool true) ∧ Below W.heap.size W w' := by
  subst hn
  exact law_walk (exprBack_h (l.map (·.v))) W [.slice a l.length c] ⟨rep_pts sl hc (by unfold maxLen; omega) hok, trivial⟩ hL
end Go.Proofs.YtijpdbjcmnpobaaDoor

namespace Go.Proofs.YtijpdbjcmnpobaaDoor
set_option linter.unusedSimpArgs false
set_option linter.unusedVariables false
set_option maxRecDepth 100000
open Go.RowKit

theorem laid_one {W : World} {l : List (String × DataW Unit)} (h : laidMetH Tryd.prog l W) (hl : (l.all fun x => x.2.handleName?.isNone) = true) (n : String) (d : DataW Unit) (hf : l.filter (fun x => x.1 == n) = [(n, d)]) : laidMet Tryd.prog [(n, d)] W := by
  rw [MakeChecks.laidMetH_plain _ _ _ hl] at h
  have := laidMet.filter (fun x => x.1 == n) h
  rwa [hf] at this
theorem iface_one {W : World} {n : String} {name : String} {d : DataW Unit} {g : Nat} {t : TypeId} {ms : Array (String × TypeId)} (hg : Tryd.prog.globalNamed n = some g) (hty : (Tryd.prog.globals[g]?).map (·.type) = some t) (ht : Tryd.prog.underlying t = some (.interface ms))
    (h : laidMet Tryd.prog [(n, .iface name d)] W) : ∃ tp p, W.var? Tryd.prog n = some #[.iface tp p] := by
  obtain ⟨ps, ⟨g', t', cs, fuel, p, q, hg', ht', hvar, hd, _, _⟩, _⟩ := h
  obtain rfl := Option.some.inj (hg.symm.trans hg')
  obtain rfl := Option.some.inj (hty.symm.trans ht')
  obtain ⟨f1, u, v, hc, _⟩ := iface_of_trod ht hd
  refine ⟨u, v, ?_⟩
  rw [hvar]
  congr 1
  apply Array.ext'
  exact hc
/-- The wrap of a tied row, with the world's shape and the listed variables. -/
theorem handed_shaped {H : Type} {enc : TypeId × Value → H} {a : Assume} {C : Checked} {os : Os} {f : FuncId} {fn : Func} {s : ChangeSpec} {conds : List PathCond} {apart fresh handsOn again : Bool} {X : World → Array Value → Prop}
    (hX : ∀ (w w' : World) (args : Array Value), w.heap = w'.heap → X w args → X w' args)
    (own : ownKnob C.prog.godebug = none) (started : os.Started) (noInit : C.prog.inits.idxOf? f = none) (hfn : C.prog.funcs[f]? = some fn)
    (wit : ∃ (w : World) (tape : Tape) (i : Input), w.os = os ∧ (w.forCall tape i).Shaped C.prog ∧ i.vars = [] ∧ Input.okWide C.prog (w.forCall tape i) .any w.heap.size f i ∧
      ((s.pre enc C.prog fn conds apart (w.forCall tape i).memory i.args ∧ X (w.forCall tape i).memory i.args) ∧ sizedMet enc C.prog fn (OpenSpec.ofChange s) apart (w.forCall tape i).memory i.args) ∧ a.holds C.prog (lone (Frame.enter C.prog f i.args .normal) [] (w.forCall tape i)))
    (con : ∀ (W : World) (base : Nat) (args : Array Value) (ds gs : List (DataW H)) (before : List MemPlace),
      (∀ (j : Nat) t v, fn.params[j]? = some t → args[j]? = some v → Value.okWide C.prog W .any base t v) →
      DataW.Whole enc C.prog fn.params.toList s.vars apart W args.toList ds gs before →
      conds.all (PathCond.test C.prog ⟨fn.params.toList, ds, s.plain.varTypes C.prog, gs⟩) = true → X W args → W.ShapedOpen C.prog →
      Calls C.prog f args W fun e W' => ∃ v, e = .returned v ∧ s.post enc C.prog fn apart fresh handsOn again W args v W') :
    ReturnsInHanded a C os f .any (fun w args => (s.pre enc C.prog fn conds apart w args ∧ X w args) ∧ sizedMet enc C.prog fn (OpenSpec.ofChange s) apart w args) (s.post enc C.prog fn apart fresh handsOn again) := by
  refine returnsInHanded_of_calls own started noInit wit fun w tape i _ hsh _ hok hpre _ => ?_
  obtain ⟨_, _, _, fn', hfn', _, _, _, _, hval⟩ := hok
  obtain rfl : fn' = fn := Option.some.inj (hfn'.symm.trans hfn)
  obtain ⟨⟨⟨ds, gs, before, hw, hc⟩, hx⟩, _⟩ := hpre
  refine (con (w.forCall tape i) w.heap.size i.args ds gs before hval (DataW.Whole.of_heap (w' := w.forCall tape i) (by rfl) hw) hc (hX _ _ _ (by rfl) hx) hsh).mono fun e W' ⟨v, he, hp⟩ => ?_
  subst he
  exact ChangeSpec.post_blind hp
theorem max_of {W : World} (hs : W.ShapedOpen Tryd.prog) : ∃ m, W.cell? ⟨2, 0, none⟩ = some (.int .i64 m) :=
  cell_of_shapedOpen_int (zero := #[.int .i64 0]) (t := 3) (k := .i64) hs (of_decide_eq_true (by kernel_rfl)) (by kernel_rfl) rfl (by kernel_rfl) (by kernel_rfl) Tryd.underlying3
theorem libW_of {W : World} {l : List (String × DataW Unit)} (hs : W.ShapedOpen Tryd.prog) (h : laidMetH Tryd.prog l W) (hl : (l.all fun x => x.2.handleName?.isNone) = true)
    (h1 : l.filter (fun x => x.1 == "internal/strconv.uint64pow10") = [("internal/strconv.uint64pow10", Rows.laid_internal_strconv_uint64pow10)])
    (h2 : l.filter (fun x => x.1 == "strconv.ErrSyntax") = [("strconv.ErrSyntax", Rows.laid_strconv_ErrSyntax)])
    (h3 : l.filter (fun x => x.1 == "strconv.ErrRange") = [("strconv.ErrRange", Rows.laid_strconv_ErrRange)]) : LibW W := by
  have t := laid_one h hl _ _ h1
  have a := laid_one h hl _ _ h2
  have b := laid_one h hl _ _ h3
  have t' : Lib.TabIs Tryd.prog W "internal/strconv.uint64pow10" .u64 Lib.pow10Tab :=
    Lib.tabIs_of_head (zs := Lib.pow10Tab) (k := .u64) (g := 3) (t := 162) (e := 72) (n := 20) (by kernel_rfl) (by kernel_rfl) Tryd.underlying162 Tryd.underlying72 (by kernel_rfl) (by kernel_rfl) t
  have a' := iface_one (g := 0) (t := 69) (by kernel_rfl) (by kernel_rfl) Tryd.underlying69 a
  have b' := iface_one (g := 1) (t := 69) (by kernel_rfl) (by kernel_rfl) Tryd.underlying69 b
  have lt : ∀ {n : String} {g : Nat} {x : Array Value}, Tryd.prog.globalNamed n = some g → W.var? Tryd.prog n = some x → g < W.heap.size := by
    intro n g x hg hv
    unfold World.var? at hv
    rw [hg] at hv
    simp only [Option.bind_some] at hv
    rcases Nat.lt_or_ge g W.heap.size with h | h
    · exact h
    · rw [Array.getElem?_eq_none h] at hv; cases hv
  have m' := max_of hs
  refine ⟨fun k hk => ?_, fun _ => t', fun _ => a', fun _ => b', fun g hg => by
    obtain rfl := Option.some.inj ((show Tryd.prog.globalNamed "internal/bytealg.MaxLen" = some 2 by kernel_rfl).symm.trans hg)
    exact m'⟩
  obtain ⟨n, hn, hg⟩ := hk
  simp only [libNames, List.mem_cons, List.not_mem_nil, or_false] at hn
  rcases hn with rfl | rfl | rfl | rfl
  · exact lt hg t'
  · obtain ⟨_, _, a'⟩ := a'; exact lt hg a'
  · obtain ⟨_, _, b'⟩ := b'; exact lt hg b'
  · obtain rfl := Option.some.inj ((show Tryd.prog.globalNamed "internal/bytealg.MaxLen" = some 2 by kernel_rfl).symm.trans hg)
    obtain ⟨m, hm⟩ := m'
    exact World.block_lt_of_cell? W _ hm
theorem libW_a {W : World} (hs : W.ShapedOpen Tryd.prog) (h : laidMetH Tryd.prog Rows.wordsNumbersRow.laid W) : LibW W := libW_of hs h (by kernel_rfl) (by kernel_rfl) (by kernel_rfl) (by kernel_rfl)
end Go.Proofs.YtijpdbjcmnpobaaDoor

