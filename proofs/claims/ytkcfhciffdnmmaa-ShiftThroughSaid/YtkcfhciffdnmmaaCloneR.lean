/-
  Maps of positions: which are right, by the program and by the document; shifts.
-/
import Derived.Test.YtkcfhciffdnmmaaSmV
import Derived.Test.YtkcfhciffdnmmaaHc
namespace Go.Proofs.Ytkcfhciffdnmmaa
set_option linter.unusedSimpArgs false
set_option linter.unusedVariables false
set_option maxRecDepth 100000
set_option maxHeartbeats 1000000
open Go.RowKit
def rgF (r:Rg):Nat→HV
 | 0=>intV r.at_
 | 1=>intV r.old
 | _=>intV r.new
@[reducible] def rgH (r:Rg):HV:=.agg 3 (rgF r)
@[reducible] def rgsF (m:List Rg):Nat→Nat→HV:=fun i=>rgF (m.getD i default)
@[reducible] def rgsV (m:List Rg):HV:=.sl 3 m.length (rgsF m)
theorem fz_rgF {sh:List (Nat×HObj)} (r:Rg) (j:Nat):Fz sh (rgF r j) (rgF r j):=by unfold rgF;split <;> exact .imm _
instance (r:Rg) (j:Nat):Frz (rgF r j):=⟨fz_rgF r j⟩
instance frz_fnz (f:Fn) (c:Nat→HV):Frz (.fn f 0 c):=⟨.fn _ 0 _ _ (fun i hi=>absurd hi (Nat.not_lt_zero _))⟩
theorem in_h (n:Int):HPure Try.prog 59 [intV n] (boolV (inB n)):=by
 refine hpure_of Try.func59 rfl kr _ _ _ rfl 9 rfl rfl (fun w F=>?_)
 refine srg fun N h1=>sa<|snl h1<|srg fun N h2=>sm ?_
 refine s0 (hop_geq rfl rfl) ?_
 refine sm ?_
 first
 | refine stg 5 (fun hb=>hop_move rfl) rfl rfl rfl rfl rfl ?_
 | refine sth 5 (fun hb=>hop_move rfl) rfl rfl rfl rfl rfl ?_
 first
 | refine stg 5 (fun hb=>hop_leq rfl rfl) rfl rfl rfl rfl rfl ?_
 | refine sth 5 (fun hb=>hop_leq rfl rfl) rfl rfl rfl rfl rfl ?_
 first
 | refine hq_p 8 (hstep_and _ _ rfl rfl rfl) rfl rfl rfl ?_
 | refine hq_p 8 (hstep_or _ _ rfl rfl rfl) rfl rfl rfl ?_
 | refine hq_p 8 (hstep_ite _ _ _ rfl rfl rfl) rfl rfl rfl ?_
 | refine hq_p 8 (hstep_pick _ _ _ _ rfl rfl rfl (fun _=>.refl _) (fun _=>.refl _)) rfl rfl rfl ?_
 refine sa ?_
 refine nu ?_
 refine h2 _<|hw_ret ?_
 refine hq_ret1 rfl (rval_tmp rfl) [] rfl pre0 ?_
 exact Fz.eq rfl
theorem right_h (m:List Rg):HPure Try.prog 43 [rgsV m] (boolV (rightM m)):=by
 refine hpure_of Try.func43 rfl kr _ _ _ rfl 43 rfl rfl (fun w F=>?_)
 refine srg fun N h1=>sa<|snl h1<|hw_seq fun Nh2 h2=>srg fun N h3=>sm ?_
 first
 | refine hq_ 7 (hop_len_sl (T:=48) rfl (elOf_spec el_48).1 rfl) rfl rfl pre0 rfl rfl ?_
 | refine hq_ 7 (hop_len_os (T:=48) rfl (elOf_spec el_48).1 rfl) rfl rfl pre0 rfl rfl ?_
 | refine hq_ 7 (hop_len_nil (T:=48) rfl (elOf_spec el_48).1 rfl) rfl rfl pre0 rfl rfl ?_
 refine s0 (hop_gtr rfl rfl) ?_
 refine snl h3 ?_
 refine wc (fun hc0=>?_) (fun hc0=>?_)
 ·have hr0:=hc0;(try simp only [hcs,Int.reduceToNat] at hc0)
  refine srg fun N h4=>sa<|snl h4<|hw_ret<|hq_then_ret ?_
  refine hq_ret1 rfl (rval_tmp rfl) [] rfl pre0 ?_
  exact Fz.eq (by unfold rightM;rw [decide_eq_false om];rfl)
 have hr0:=hc0;(try simp only [hcs,Int.reduceToNat] at hc0)
 have hml:m.length≤1000:=by omega
 refine hw_skip<|h2 _<|srg fun N h5=>sa<|snl h5<|hw_seq fun Nh6 h6=>srg fun N h7=>sm ?_
 first
 | refine hq_ 10 (hop_len_sl (T:=48) rfl (elOf_spec el_48).1 rfl) rfl rfl pre0 rfl rfl ?_
 | refine hq_ 10 (hop_len_os (T:=48) rfl (elOf_spec el_48).1 rfl) rfl rfl pre0 rfl rfl ?_
 | refine hq_ 10 (hop_len_nil (T:=48) rfl (elOf_spec el_48).1 rfl) rfl rfl pre0 rfl rfl ?_
 refine sm<|snl h7<|hw_block ?_
 refine hw_loopc (α:=Nat) (fun x c=>⟨43,[(3,.v (intV (endAt m x))),(9,.v (rgsV m)),(10,.v (intV (m.length:Int))),(11,.v (intV (x:Int)))],[],c⟩) (fun x=>x≤m.length∧rgOk (endAt m x) (m.drop x)=rgOk (-1) m) (fun x=>m.length - x) (0) (by exact ⟨Nat.zero_le _,rfl⟩) (hsub_of rfl (Nat.le_refl _) tsa HpSub.nil) (fun i c hx NhL8 hL8=>?_)
 (try dsimp only at hx hL8 ⊢)
 obtain ⟨hi,hrg⟩:=hx
 refine srg fun N h9=>?_
 refine s0 hli ?_
 refine snl h9<|hw_seq fun Nh10 h10=>?_
 refine wc (fun hc1=>?_) (fun hc1=>?_)
 ·have hr1:=hc1;(try simp only [hcs,Int.reduceToNat] at hc1)
  have hil:i < m.length:=om;rw [rgOk_step hil] at hrg
  refine hw_skip<|h10 _<|hw_seq fun Nh11 h11=>hw_block<|srg fun N h12=>?_
  first
  | refine hq_ 13 (hop_ia_sl el_48 rfl rfl (by first | exact Nat.le_of_ble_eq_true rfl | omega | (dsimp only;omega) | (simp <;> omega)) (by first | exact Nat.le_of_ble_eq_true rfl | omega | (dsimp only;omega) | (simp <;> omega)) (by first | exact Nat.le_of_ble_eq_true rfl | omega | (dsimp only;omega) | (simp <;> omega))) rfl rfl pre0 rfl rfl ?_
  | refine hq_ 13 (hol_ia_os el_48 rfl rfl (by first | exact Nat.le_of_ble_eq_true rfl | omega | (dsimp only;omega) | (simp <;> omega)) (by first | exact Nat.le_of_ble_eq_true rfl | omega | (dsimp only;omega) | (simp <;> omega))) rfl rfl (pre1 rfl) rfl rfl ?_
  first
  | refine hq_ 14 (hol_load ty_88 rfl (by first | exact Nat.le_of_ble_eq_true rfl | omega | (dsimp only;omega) | (simp <;> omega)) (by first | exact Nat.le_of_ble_eq_true rfl | omega | (dsimp only;omega) | (simp <;> omega)) (fun h=>(by first | rfl | cases h))) rfl rfl (pre1 rfl) rfl rfl ?_
  | refine hq_ 14 (hop_load_fp ty_88 rfl (by first | exact Nat.le_of_ble_eq_true rfl | omega | (dsimp only;omega) | (simp <;> omega)) (fun h=>(by first | rfl | cases h))) rfl rfl pre0 rfl rfl ?_
  refine hm_1 5 (hop_alloc (id:=5) (sz:=3) zc_88 rfl rfl omx omx) rfl rfl pre0 rfl rfl (c':=c+1) rfl ?_
  first
  | refine hm_s1 (hol_storeW ty_88 rfl rfl rfl rfl) rfl rfl (pre1 rfl) (c':=c+2) rfl ?_
  | refine hm_s1 (hol_store ty_88 rfl rfl rfl rfl (by first | exact Nat.le_of_ble_eq_true rfl | omega | (dsimp only;omega) | (simp <;> omega)) (by first | exact Nat.le_of_ble_eq_true rfl | omega | (dsimp only;omega) | (simp <;> omega)) (by first | exact Nat.le_of_ble_eq_true rfl | omega | (dsimp only;omega) | (simp <;> omega))) rfl rfl (pre1 rfl) (c':=c+2) rfl ?_
  refine snl h12<|hw_seq fun Nh13 h13=>srg fun N h14=>?_
  first
  | refine hq_ 15 (hop_fa fd_88_0 rfl) rfl rfl pre0 rfl rfl ?_
  | refine hq_ 15 (hop_fa_fp fd_88_0 rfl (by first | exact Nat.le_of_ble_eq_true rfl | omega | (dsimp only;omega) | (simp <;> omega))) rfl rfl pre0 rfl rfl ?_
  first
  | refine hq_ 16 (HOp.val (v':=intV (m.getD i default).at_) (hol_load ty_3 rfl (by first | exact Nat.le_of_ble_eq_true rfl | omega | (dsimp only;omega) | (simp <;> omega)) (by first | exact Nat.le_of_ble_eq_true rfl | omega | (dsimp only;omega) | (simp <;> omega)) (fun h=>(by first | rfl | cases h))) (rfl)) rfl rfl (pre1 rfl) rfl rfl ?_
  | refine hq_ 16 (HOp.val (v':=intV (m.getD i default).at_) (hop_load_fp ty_3 rfl (by first | exact Nat.le_of_ble_eq_true rfl | omega | (dsimp only;omega) | (simp <;> omega)) (fun h=>(by first | rfl | cases h))) (rfl)) rfl rfl pre0 rfl rfl ?_
  refine s0 (hop_call0 (xs:=[_]) (in_h (m.getD i default).at_) ⟨rfl,trivial⟩ ⟨fe,trivial⟩) ?_
  refine s0 (hop_not rfl) ?_
  refine sm ?_
  first
  | refine stg 19 (fun hb=>hop_fa fd_88_1 rfl) rfl rfl rfl rfl rfl ?_
  | refine sth 19 (fun hb=>hop_fa fd_88_1 rfl) rfl rfl rfl rfl rfl ?_
  | refine stg 19 (fun hb=>hop_fa_fp fd_88_1 rfl (by first | exact Nat.le_of_ble_eq_true rfl | (simp at hb;first | omega | (dsimp only;omega) | (simp <;> omega)) | omega | (dsimp only;omega))) rfl rfl rfl rfl rfl ?_
  | refine sth 19 (fun hb=>hop_fa_fp fd_88_1 rfl (by first | exact Nat.le_of_ble_eq_true rfl | (simp at hb;first | omega | (dsimp only;omega) | (simp <;> omega)) | omega | (dsimp only;omega))) rfl rfl rfl rfl rfl ?_
  first
  | refine hq_g 21 4 19 false _ (fun hb=>HOp.val (v':=intV (m.getD i default).old) (hol_load ty_3 rfl (by first | exact Nat.le_of_ble_eq_true rfl | (simp at hb;first | omega | (dsimp only;omega) | (simp <;> omega)) | omega | (dsimp only;omega)) (by first | exact Nat.le_of_ble_eq_true rfl | (simp at hb;first | omega | (dsimp only;omega) | (simp <;> omega)) | omega | (dsimp only;omega)) (fun h=>(by first | rfl | cases h))) (rfl)) rfl rfl rfl rfl (pre1 rfl) rfl rfl rfl ?_
  | refine hq_g2 21 4 19 _ _ false _ (fun hb=>HOp.val (v':=intV (m.getD i default).old) (hol_load ty_3 rfl (by first | exact Nat.le_of_ble_eq_true rfl | (simp at hb;first | omega | (dsimp only;omega) | (simp <;> omega)) | omega | (dsimp only;omega)) (by first | exact Nat.le_of_ble_eq_true rfl | (simp at hb;first | omega | (dsimp only;omega) | (simp <;> omega)) | omega | (dsimp only;omega)) (fun h=>(by first | rfl | cases h))) (rfl)) rfl rfl rfl rfl (pre1 rfl) rfl rfl rfl ?_
  | refine stg 19 (fun hb=>HOp.val (v':=intV (m.getD i default).old) (hop_load_fp ty_3 rfl (by first | exact Nat.le_of_ble_eq_true rfl | (simp at hb;first | omega | (dsimp only;omega) | (simp <;> omega)) | omega | (dsimp only;omega)) (fun h=>(by first | rfl | cases h))) (rfl)) rfl rfl rfl rfl rfl ?_
  | refine sth 19 (fun hb=>HOp.val (v':=intV (m.getD i default).old) (hop_load_fp ty_3 rfl (by first | exact Nat.le_of_ble_eq_true rfl | (simp at hb;first | omega | (dsimp only;omega) | (simp <;> omega)) | omega | (dsimp only;omega)) (fun h=>(by first | rfl | cases h))) (rfl)) rfl rfl rfl rfl rfl ?_
  first
  | refine stg 19 (fun hb=>hop_call0 (xs:=[_]) (in_h (m.getD i default).old) ⟨rfl,trivial⟩ ⟨(Fz.eq rfl),trivial⟩) rfl rfl rfl rfl rfl ?_
  | refine sth 19 (fun hb=>hop_call0 (xs:=[_]) (in_h (m.getD i default).old) ⟨rfl,trivial⟩ ⟨(Fz.eq rfl),trivial⟩) rfl rfl rfl rfl rfl ?_
  first
  | refine stg 19 (fun hb=>hop_not rfl) rfl rfl rfl rfl rfl ?_
  | refine sth 19 (fun hb=>hop_not rfl) rfl rfl rfl rfl rfl ?_
  first
  | refine hq_p 24 (hstep_and _ _ rfl rfl rfl) rfl rfl rfl ?_
  | refine hq_p 24 (hstep_or _ _ rfl rfl rfl) rfl rfl rfl ?_
  | refine hq_p 24 (hstep_ite _ _ _ rfl rfl rfl) rfl rfl rfl ?_
  | refine hq_p 24 (hstep_pick _ _ _ _ rfl rfl rfl (fun _=>.refl _) (fun _=>.refl _)) rfl rfl rfl ?_
  refine sm ?_
  first
  | refine stg 25 (fun hb=>hop_fa fd_88_2 rfl) rfl rfl rfl rfl rfl ?_
  | refine sth 25 (fun hb=>hop_fa fd_88_2 rfl) rfl rfl rfl rfl rfl ?_
  | refine stg 25 (fun hb=>hop_fa_fp fd_88_2 rfl (by first | exact Nat.le_of_ble_eq_true rfl | (simp at hb;first | omega | (dsimp only;omega) | (simp <;> omega)) | omega | (dsimp only;omega))) rfl rfl rfl rfl rfl ?_
  | refine sth 25 (fun hb=>hop_fa_fp fd_88_2 rfl (by first | exact Nat.le_of_ble_eq_true rfl | (simp at hb;first | omega | (dsimp only;omega) | (simp <;> omega)) | omega | (dsimp only;omega))) rfl rfl rfl rfl rfl ?_
  first
  | refine hq_g 27 10 25 false _ (fun hb=>HOp.val (v':=intV (m.getD i default).new) (hol_load ty_3 rfl (by first | exact Nat.le_of_ble_eq_true rfl | (simp at hb;first | omega | (dsimp only;omega) | (simp <;> omega)) | omega | (dsimp only;omega)) (by first | exact Nat.le_of_ble_eq_true rfl | (simp at hb;first | omega | (dsimp only;omega) | (simp <;> omega)) | omega | (dsimp only;omega)) (fun h=>(by first | rfl | cases h))) (rfl)) rfl rfl rfl rfl (pre1 rfl) rfl rfl rfl ?_
  | refine hq_g2 27 10 25 _ _ false _ (fun hb=>HOp.val (v':=intV (m.getD i default).new) (hol_load ty_3 rfl (by first | exact Nat.le_of_ble_eq_true rfl | (simp at hb;first | omega | (dsimp only;omega) | (simp <;> omega)) | omega | (dsimp only;omega)) (by first | exact Nat.le_of_ble_eq_true rfl | (simp at hb;first | omega | (dsimp only;omega) | (simp <;> omega)) | omega | (dsimp only;omega)) (fun h=>(by first | rfl | cases h))) (rfl)) rfl rfl rfl rfl (pre1 rfl) rfl rfl rfl ?_
  | refine stg 25 (fun hb=>HOp.val (v':=intV (m.getD i default).new) (hop_load_fp ty_3 rfl (by first | exact Nat.le_of_ble_eq_true rfl | (simp at hb;first | omega | (dsimp only;omega) | (simp <;> omega)) | omega | (dsimp only;omega)) (fun h=>(by first | rfl | cases h))) (rfl)) rfl rfl rfl rfl rfl ?_
  | refine sth 25 (fun hb=>HOp.val (v':=intV (m.getD i default).new) (hop_load_fp ty_3 rfl (by first | exact Nat.le_of_ble_eq_true rfl | (simp at hb;first | omega | (dsimp only;omega) | (simp <;> omega)) | omega | (dsimp only;omega)) (fun h=>(by first | rfl | cases h))) (rfl)) rfl rfl rfl rfl rfl ?_
  first
  | refine stg 25 (fun hb=>hop_call0 (xs:=[_]) (in_h (m.getD i default).new) ⟨rfl,trivial⟩ ⟨(Fz.eq rfl),trivial⟩) rfl rfl rfl rfl rfl ?_
  | refine sth 25 (fun hb=>hop_call0 (xs:=[_]) (in_h (m.getD i default).new) ⟨rfl,trivial⟩ ⟨(Fz.eq rfl),trivial⟩) rfl rfl rfl rfl rfl ?_
  first
  | refine stg 25 (fun hb=>hop_not rfl) rfl rfl rfl rfl rfl ?_
  | refine sth 25 (fun hb=>hop_not rfl) rfl rfl rfl rfl rfl ?_
  first
  | refine hq_p 30 (hstep_and _ _ rfl rfl rfl) rfl rfl rfl ?_
  | refine hq_p 30 (hstep_or _ _ rfl rfl rfl) rfl rfl rfl ?_
  | refine hq_p 30 (hstep_ite _ _ _ rfl rfl rfl) rfl rfl rfl ?_
  | refine hq_p 30 (hstep_pick _ _ _ _ rfl rfl rfl (fun _=>.refl _) (fun _=>.refl _)) rfl rfl rfl ?_
  refine sm ?_
  first
  | refine stg 31 (fun hb=>hop_fa fd_88_0 rfl) rfl rfl rfl rfl rfl ?_
  | refine sth 31 (fun hb=>hop_fa fd_88_0 rfl) rfl rfl rfl rfl rfl ?_
  | refine stg 31 (fun hb=>hop_fa_fp fd_88_0 rfl (by first | exact Nat.le_of_ble_eq_true rfl | (simp at hb;first | omega | (dsimp only;omega) | (simp <;> omega)) | omega | (dsimp only;omega))) rfl rfl rfl rfl rfl ?_
  | refine sth 31 (fun hb=>hop_fa_fp fd_88_0 rfl (by first | exact Nat.le_of_ble_eq_true rfl | (simp at hb;first | omega | (dsimp only;omega) | (simp <;> omega)) | omega | (dsimp only;omega))) rfl rfl rfl rfl rfl ?_
  first
  | refine hq_g 33 16 31 false _ (fun hb=>HOp.val (v':=intV (m.getD i default).at_) (hol_load ty_3 rfl (by first | exact Nat.le_of_ble_eq_true rfl | (simp at hb;first | omega | (dsimp only;omega) | (simp <;> omega)) | omega | (dsimp only;omega)) (by first | exact Nat.le_of_ble_eq_true rfl | (simp at hb;first | omega | (dsimp only;omega) | (simp <;> omega)) | omega | (dsimp only;omega)) (fun h=>(by first | rfl | cases h))) (rfl)) rfl rfl rfl rfl (pre1 rfl) rfl rfl rfl ?_
  | refine hq_g2 33 16 31 _ _ false _ (fun hb=>HOp.val (v':=intV (m.getD i default).at_) (hol_load ty_3 rfl (by first | exact Nat.le_of_ble_eq_true rfl | (simp at hb;first | omega | (dsimp only;omega) | (simp <;> omega)) | omega | (dsimp only;omega)) (by first | exact Nat.le_of_ble_eq_true rfl | (simp at hb;first | omega | (dsimp only;omega) | (simp <;> omega)) | omega | (dsimp only;omega)) (fun h=>(by first | rfl | cases h))) (rfl)) rfl rfl rfl rfl (pre1 rfl) rfl rfl rfl ?_
  | refine stg 31 (fun hb=>HOp.val (v':=intV (m.getD i default).at_) (hop_load_fp ty_3 rfl (by first | exact Nat.le_of_ble_eq_true rfl | (simp at hb;first | omega | (dsimp only;omega) | (simp <;> omega)) | omega | (dsimp only;omega)) (fun h=>(by first | rfl | cases h))) (rfl)) rfl rfl rfl rfl rfl ?_
  | refine sth 31 (fun hb=>HOp.val (v':=intV (m.getD i default).at_) (hop_load_fp ty_3 rfl (by first | exact Nat.le_of_ble_eq_true rfl | (simp at hb;first | omega | (dsimp only;omega) | (simp <;> omega)) | omega | (dsimp only;omega)) (fun h=>(by first | rfl | cases h))) (rfl)) rfl rfl rfl rfl rfl ?_
  first
  | refine stg 31 (fun hb=>hop_move rfl) rfl rfl rfl rfl rfl ?_
  | refine sth 31 (fun hb=>hop_move rfl) rfl rfl rfl rfl rfl ?_
  first
  | refine stg 31 (fun hb=>hop_leq rfl rfl) rfl rfl rfl rfl rfl ?_
  | refine sth 31 (fun hb=>hop_leq rfl rfl) rfl rfl rfl rfl rfl ?_
  first
  | refine hq_p 36 (hstep_and _ _ rfl rfl rfl) rfl rfl rfl ?_
  | refine hq_p 36 (hstep_or _ _ rfl rfl rfl) rfl rfl rfl ?_
  | refine hq_p 36 (hstep_ite _ _ _ rfl rfl rfl) rfl rfl rfl ?_
  | refine hq_p 36 (hstep_pick _ _ _ _ rfl rfl rfl (fun _=>.refl _) (fun _=>.refl _)) rfl rfl rfl ?_
  refine nu ?_
  refine h14 _ ?_
  refine wc (fun hc2=>?_) (fun hc2=>?_)
  ·have hr2:=hc2;(try simp only [hcs,Int.reduceToNat] at hc2)
   have hf:rgOk (-1) m=false:=(by rw [←hrg];rcases hc2 with ((h | h) | h) | h;(rw [h];simp);(rw [h];simp);(rw [h];simp);(rw [decide_eq_false om];simp))
   refine srg fun N h15=>sa<|snl h15<|hw_ret<|hq_then_ret<|hq_block_ret<|hq_then_ret<|hq_then_ret<|hq_block_ret<|hq_then_ret ?_
   refine hq_ret1 rfl (rval_tmp rfl) [] rfl pre0 ?_
   exact Fz.eq (by unfold rightM;rw [hf];simp)
  have hr2:=hc2;(try simp only [hcs,Int.reduceToNat] at hc2)
  obtain ⟨⟨⟨hi1,hi2⟩,hi3⟩,hi4⟩:=id hc2;rw [hi1,hi2,hi3,decide_eq_true om] at hrg;simp only [Bool.true_and] at hrg;rw [inB_iff] at hi1 hi2 hi3
  refine hw_skip<|h13 _<|hw_region ?_
  first
  | refine hq_ 37 (hop_fa fd_88_0 rfl) rfl rfl pre0 rfl rfl ?_
  | refine hq_ 37 (hop_fa_fp fd_88_0 rfl (by first | exact Nat.le_of_ble_eq_true rfl | omega | (dsimp only;omega) | (simp <;> omega))) rfl rfl pre0 rfl rfl ?_
  first
  | refine hq_ 38 (HOp.val (v':=intV (m.getD i default).at_) (hol_load ty_3 rfl (by first | exact Nat.le_of_ble_eq_true rfl | omega | (dsimp only;omega) | (simp <;> omega)) (by first | exact Nat.le_of_ble_eq_true rfl | omega | (dsimp only;omega) | (simp <;> omega)) (fun h=>(by first | rfl | cases h))) (rfl)) rfl rfl (pre1 rfl) rfl rfl ?_
  | refine hq_ 38 (HOp.val (v':=intV (m.getD i default).at_) (hop_load_fp ty_3 rfl (by first | exact Nat.le_of_ble_eq_true rfl | omega | (dsimp only;omega) | (simp <;> omega)) (fun h=>(by first | rfl | cases h))) (rfl)) rfl rfl pre0 rfl rfl ?_
  first
  | refine hq_ 39 (hop_fa fd_88_1 rfl) rfl rfl pre0 rfl rfl ?_
  | refine hq_ 39 (hop_fa_fp fd_88_1 rfl (by first | exact Nat.le_of_ble_eq_true rfl | omega | (dsimp only;omega) | (simp <;> omega))) rfl rfl pre0 rfl rfl ?_
  first
  | refine hq_ 40 (HOp.val (v':=intV (m.getD i default).old) (hol_load ty_3 rfl (by first | exact Nat.le_of_ble_eq_true rfl | omega | (dsimp only;omega) | (simp <;> omega)) (by first | exact Nat.le_of_ble_eq_true rfl | omega | (dsimp only;omega) | (simp <;> omega)) (fun h=>(by first | rfl | cases h))) (rfl)) rfl rfl (pre1 rfl) rfl rfl ?_
  | refine hq_ 40 (HOp.val (v':=intV (m.getD i default).old) (hop_load_fp ty_3 rfl (by first | exact Nat.le_of_ble_eq_true rfl | omega | (dsimp only;omega) | (simp <;> omega)) (fun h=>(by first | rfl | cases h))) (rfl)) rfl rfl pre0 rfl rfl ?_
  first
  | refine hq_ 41 (hop_addi rfl rfl rfl (by first | exact Nat.le_of_ble_eq_true rfl | omega | (dsimp only;omega) | (simp <;> omega)) (by first | exact Nat.le_of_ble_eq_true rfl | omega | (dsimp only;omega) | (simp <;> omega))) rfl rfl pre0 rfl rfl ?_
  | refine hq_ 41 (hop_add rfl rfl) rfl rfl pre0 rfl rfl ?_
  refine sa<|hseq_nil<|hq_block<|h11 _<|hw_region ?_
  first
  | refine hq_ 42 (hop_addi rfl rfl rfl (by first | exact Nat.le_of_ble_eq_true rfl | omega | (dsimp only;omega) | (simp <;> omega)) (by first | exact Nat.le_of_ble_eq_true rfl | omega | (dsimp only;omega) | (simp <;> omega))) rfl rfl pre0 rfl rfl ?_
  | refine hq_ 42 (hop_add rfl rfl) rfl rfl pre0 rfl rfl ?_
  refine sm<|hseq_nil ?_
  exact hL8 (i+1) _ _ (by (try dsimp only);exact ⟨by omega,hrg⟩) (by (try dsimp only);omega) (hsub_of rfl (Nat.le_refl _) (TmSub.cons rfl (sb_intV (endAt_succ m i).symm) tsa) HpSub.nil)
 have hr1:=hc1;(try simp only [hcs,Int.reduceToNat] at hc1)
 have hil:i=m.length:=om;have hf:rgOk (-1) m=true:=(by rw [←hrg,hil,List.drop_length];rfl)
 refine hw_exit ?_
 refine hq_then_exit<|hq_then_exit<|hq_block_here<|h6 _<|srg fun N h16=>sa<|snl h16<|hw_ret ?_
 refine hq_ret1 rfl (rval_tmp rfl) [] rfl pre0 ?_
 exact Fz.eq (by unfold rightM;rw [hf,decide_eq_true hml];rfl)
theorem right23_h (m:List Rg):HPure Try.prog 18 [rgsV m] (boolV (rightM m)):=by
 refine hpure_of Try.func18 rfl kr _ _ _ rfl 66 rfl rfl (fun w F=>?_)
 refine srg fun N h1=>sa<|snl h1<|hw_seq fun Nh2 h2=>srg fun N h3=>sm ?_
 first
 | refine hq_ 6 (hop_len_sl (T:=48) rfl (elOf_spec el_48).1 rfl) rfl rfl pre0 rfl rfl ?_
 | refine hq_ 6 (hop_len_os (T:=48) rfl (elOf_spec el_48).1 rfl) rfl rfl pre0 rfl rfl ?_
 | refine hq_ 6 (hop_len_nil (T:=48) rfl (elOf_spec el_48).1 rfl) rfl rfl pre0 rfl rfl ?_
 refine s0 (hop_gtr rfl rfl) ?_
 refine snl h3 ?_
 refine wc (fun hc0=>?_) (fun hc0=>?_)
 ·have hr0:=hc0;(try simp only [hcs,Int.reduceToNat] at hc0)
  refine srg fun N h4=>sa<|snl h4<|hw_ret<|hq_then_ret ?_
  refine hq_ret1 rfl (rval_tmp rfl) [] rfl pre0 ?_
  exact Fz.eq (by unfold rightM;rw [decide_eq_false om];rfl)
 have hr0:=hc0;(try simp only [hcs,Int.reduceToNat] at hc0)
 have hml:m.length≤1000:=by omega
 refine hw_skip<|h2 _<|hw_seq fun Nh5 h5=>srg fun N h6=>sa<|snl h6<|hw_block ?_
 refine hw_loopc (α:=Nat) (fun x c=>⟨66,[(0,.v (rgsV m)),(3,.v (intV (x:Int)))],[],c⟩) (fun x=>x≤m.length∧rgOk (endAt m x) (m.drop x)=rgOk (-1) m∧(0 < x→0≤endAt m x∧endAt m x≤2147483648∧0≤(m.getD (x - 1) default).at_∧(m.getD (x - 1) default).at_≤1073741824∧0≤(m.getD (x - 1) default).old∧(m.getD (x - 1) default).old≤1073741824)) (fun x=>m.length - x) (0) (by exact ⟨Nat.zero_le _,rfl,fun h=>absurd h om⟩) (hsub_of rfl (Nat.le_refl _) tsa HpSub.nil) (fun i c hx NhL7 hL7=>?_)
 (try dsimp only at hx hL7 ⊢)
 obtain ⟨hi,hrg,hend⟩:=hx
 refine hw_seq fun Nh8 h8=>srg fun N h9=>sm<|sm ?_
 first
 | refine hq_ 10 (hop_len_sl (T:=48) rfl (elOf_spec el_48).1 rfl) rfl rfl pre0 rfl rfl ?_
 | refine hq_ 10 (hop_len_os (T:=48) rfl (elOf_spec el_48).1 rfl) rfl rfl pre0 rfl rfl ?_
 | refine hq_ 10 (hop_len_nil (T:=48) rfl (elOf_spec el_48).1 rfl) rfl rfl pre0 rfl rfl ?_
 refine s0 hli ?_
 refine snl h9 ?_
 refine wc (fun hc1=>?_) (fun hc1=>?_)
 ·have hr1:=hc1;(try simp only [hcs,Int.reduceToNat] at hc1)
  have hil:i < m.length:=om;rw [rgOk_step hil] at hrg
  refine hw_skip<|h8 _<|hw_seq fun Nh10 h10=>hw_block<|srg fun N h11=>sm<|sm ?_
  first
  | refine hq_ 16 (hop_ia_sl el_48 rfl rfl (by first | exact Nat.le_of_ble_eq_true rfl | omega | (dsimp only;omega) | (simp <;> omega)) (by first | exact Nat.le_of_ble_eq_true rfl | omega | (dsimp only;omega) | (simp <;> omega)) (by first | exact Nat.le_of_ble_eq_true rfl | omega | (dsimp only;omega) | (simp <;> omega))) rfl rfl pre0 rfl rfl ?_
  | refine hq_ 16 (hol_ia_os el_48 rfl rfl (by first | exact Nat.le_of_ble_eq_true rfl | omega | (dsimp only;omega) | (simp <;> omega)) (by first | exact Nat.le_of_ble_eq_true rfl | omega | (dsimp only;omega) | (simp <;> omega))) rfl rfl (pre1 rfl) rfl rfl ?_
  first
  | refine hq_ 17 (hol_load ty_88 rfl (by first | exact Nat.le_of_ble_eq_true rfl | omega | (dsimp only;omega) | (simp <;> omega)) (by first | exact Nat.le_of_ble_eq_true rfl | omega | (dsimp only;omega) | (simp <;> omega)) (fun h=>(by first | rfl | cases h))) rfl rfl (pre1 rfl) rfl rfl ?_
  | refine hq_ 17 (hop_load_fp ty_88 rfl (by first | exact Nat.le_of_ble_eq_true rfl | omega | (dsimp only;omega) | (simp <;> omega)) (fun h=>(by first | rfl | cases h))) rfl rfl pre0 rfl rfl ?_
  refine hm_1 4 (hop_alloc (id:=4) (sz:=3) zc_88 rfl rfl omx omx) rfl rfl pre0 rfl rfl (c':=c+1) rfl ?_
  first
  | refine hm_s1 (hol_storeW ty_88 rfl rfl rfl rfl) rfl rfl (pre1 rfl) (c':=c+2) rfl ?_
  | refine hm_s1 (hol_store ty_88 rfl rfl rfl rfl (by first | exact Nat.le_of_ble_eq_true rfl | omega | (dsimp only;omega) | (simp <;> omega)) (by first | exact Nat.le_of_ble_eq_true rfl | omega | (dsimp only;omega) | (simp <;> omega)) (by first | exact Nat.le_of_ble_eq_true rfl | omega | (dsimp only;omega) | (simp <;> omega))) rfl rfl (pre1 rfl) (c':=c+2) rfl ?_
  refine snl h11<|hw_seq fun Nh12 h12=>srg fun N h13=>?_
  first
  | refine hq_ 18 (hop_fa fd_88_0 rfl) rfl rfl pre0 rfl rfl ?_
  | refine hq_ 18 (hop_fa_fp fd_88_0 rfl (by first | exact Nat.le_of_ble_eq_true rfl | omega | (dsimp only;omega) | (simp <;> omega))) rfl rfl pre0 rfl rfl ?_
  first
  | refine hq_ 19 (HOp.val (v':=intV (m.getD i default).at_) (hol_load ty_3 rfl (by first | exact Nat.le_of_ble_eq_true rfl | omega | (dsimp only;omega) | (simp <;> omega)) (by first | exact Nat.le_of_ble_eq_true rfl | omega | (dsimp only;omega) | (simp <;> omega)) (fun h=>(by first | rfl | cases h))) (rfl)) rfl rfl (pre1 rfl) rfl rfl ?_
  | refine hq_ 19 (HOp.val (v':=intV (m.getD i default).at_) (hop_load_fp ty_3 rfl (by first | exact Nat.le_of_ble_eq_true rfl | omega | (dsimp only;omega) | (simp <;> omega)) (fun h=>(by first | rfl | cases h))) (rfl)) rfl rfl pre0 rfl rfl ?_
  refine s0 hli ?_
  refine sm ?_
  first
  | refine stg 21 (fun hb=>hop_fa fd_88_1 rfl) rfl rfl rfl rfl rfl ?_
  | refine sth 21 (fun hb=>hop_fa fd_88_1 rfl) rfl rfl rfl rfl rfl ?_
  | refine stg 21 (fun hb=>hop_fa_fp fd_88_1 rfl (by first | exact Nat.le_of_ble_eq_true rfl | (simp at hb;first | omega | (dsimp only;omega) | (simp <;> omega)) | omega | (dsimp only;omega))) rfl rfl rfl rfl rfl ?_
  | refine sth 21 (fun hb=>hop_fa_fp fd_88_1 rfl (by first | exact Nat.le_of_ble_eq_true rfl | (simp at hb;first | omega | (dsimp only;omega) | (simp <;> omega)) | omega | (dsimp only;omega))) rfl rfl rfl rfl rfl ?_
  first
  | refine hq_g 23 3 21 false _ (fun hb=>HOp.val (v':=intV (m.getD i default).old) (hol_load ty_3 rfl (by first | exact Nat.le_of_ble_eq_true rfl | (simp at hb;first | omega | (dsimp only;omega) | (simp <;> omega)) | omega | (dsimp only;omega)) (by first | exact Nat.le_of_ble_eq_true rfl | (simp at hb;first | omega | (dsimp only;omega) | (simp <;> omega)) | omega | (dsimp only;omega)) (fun h=>(by first | rfl | cases h))) (rfl)) rfl rfl rfl rfl (pre1 rfl) rfl rfl rfl ?_
  | refine hq_g2 23 3 21 _ _ false _ (fun hb=>HOp.val (v':=intV (m.getD i default).old) (hol_load ty_3 rfl (by first | exact Nat.le_of_ble_eq_true rfl | (simp at hb;first | omega | (dsimp only;omega) | (simp <;> omega)) | omega | (dsimp only;omega)) (by first | exact Nat.le_of_ble_eq_true rfl | (simp at hb;first | omega | (dsimp only;omega) | (simp <;> omega)) | omega | (dsimp only;omega)) (fun h=>(by first | rfl | cases h))) (rfl)) rfl rfl rfl rfl (pre1 rfl) rfl rfl rfl ?_
  | refine stg 21 (fun hb=>HOp.val (v':=intV (m.getD i default).old) (hop_load_fp ty_3 rfl (by first | exact Nat.le_of_ble_eq_true rfl | (simp at hb;first | omega | (dsimp only;omega) | (simp <;> omega)) | omega | (dsimp only;omega)) (fun h=>(by first | rfl | cases h))) (rfl)) rfl rfl rfl rfl rfl ?_
  | refine sth 21 (fun hb=>HOp.val (v':=intV (m.getD i default).old) (hop_load_fp ty_3 rfl (by first | exact Nat.le_of_ble_eq_true rfl | (simp at hb;first | omega | (dsimp only;omega) | (simp <;> omega)) | omega | (dsimp only;omega)) (fun h=>(by first | rfl | cases h))) (rfl)) rfl rfl rfl rfl rfl ?_
  first
  | refine stg 21 (fun hb=>hop_lss rfl rfl) rfl rfl rfl rfl rfl ?_
  | refine sth 21 (fun hb=>hop_lss rfl rfl) rfl rfl rfl rfl rfl ?_
  first
  | refine hq_p 25 (hstep_and _ _ rfl rfl rfl) rfl rfl rfl ?_
  | refine hq_p 25 (hstep_or _ _ rfl rfl rfl) rfl rfl rfl ?_
  | refine hq_p 25 (hstep_ite _ _ _ rfl rfl rfl) rfl rfl rfl ?_
  | refine hq_p 25 (hstep_pick _ _ _ _ rfl rfl rfl (fun _=>.refl _) (fun _=>.refl _)) rfl rfl rfl ?_
  refine sm ?_
  first
  | refine stg 26 (fun hb=>hop_fa fd_88_2 rfl) rfl rfl rfl rfl rfl ?_
  | refine sth 26 (fun hb=>hop_fa fd_88_2 rfl) rfl rfl rfl rfl rfl ?_
  | refine stg 26 (fun hb=>hop_fa_fp fd_88_2 rfl (by first | exact Nat.le_of_ble_eq_true rfl | (simp at hb;first | omega | (dsimp only;omega) | (simp <;> omega)) | omega | (dsimp only;omega))) rfl rfl rfl rfl rfl ?_
  | refine sth 26 (fun hb=>hop_fa_fp fd_88_2 rfl (by first | exact Nat.le_of_ble_eq_true rfl | (simp at hb;first | omega | (dsimp only;omega) | (simp <;> omega)) | omega | (dsimp only;omega))) rfl rfl rfl rfl rfl ?_
  first
  | refine hq_g 28 8 26 false _ (fun hb=>HOp.val (v':=intV (m.getD i default).new) (hol_load ty_3 rfl (by first | exact Nat.le_of_ble_eq_true rfl | (simp at hb;first | omega | (dsimp only;omega) | (simp <;> omega)) | omega | (dsimp only;omega)) (by first | exact Nat.le_of_ble_eq_true rfl | (simp at hb;first | omega | (dsimp only;omega) | (simp <;> omega)) | omega | (dsimp only;omega)) (fun h=>(by first | rfl | cases h))) (rfl)) rfl rfl rfl rfl (pre1 rfl) rfl rfl rfl ?_
  | refine hq_g2 28 8 26 _ _ false _ (fun hb=>HOp.val (v':=intV (m.getD i default).new) (hol_load ty_3 rfl (by first | exact Nat.le_of_ble_eq_true rfl | (simp at hb;first | omega | (dsimp only;omega) | (simp <;> omega)) | omega | (dsimp only;omega)) (by first | exact Nat.le_of_ble_eq_true rfl | (simp at hb;first | omega | (dsimp only;omega) | (simp <;> omega)) | omega | (dsimp only;omega)) (fun h=>(by first | rfl | cases h))) (rfl)) rfl rfl rfl rfl (pre1 rfl) rfl rfl rfl ?_
  | refine stg 26 (fun hb=>HOp.val (v':=intV (m.getD i default).new) (hop_load_fp ty_3 rfl (by first | exact Nat.le_of_ble_eq_true rfl | (simp at hb;first | omega | (dsimp only;omega) | (simp <;> omega)) | omega | (dsimp only;omega)) (fun h=>(by first | rfl | cases h))) (rfl)) rfl rfl rfl rfl rfl ?_
  | refine sth 26 (fun hb=>HOp.val (v':=intV (m.getD i default).new) (hop_load_fp ty_3 rfl (by first | exact Nat.le_of_ble_eq_true rfl | (simp at hb;first | omega | (dsimp only;omega) | (simp <;> omega)) | omega | (dsimp only;omega)) (fun h=>(by first | rfl | cases h))) (rfl)) rfl rfl rfl rfl rfl ?_
  first
  | refine stg 26 (fun hb=>hop_lss rfl rfl) rfl rfl rfl rfl rfl ?_
  | refine sth 26 (fun hb=>hop_lss rfl rfl) rfl rfl rfl rfl rfl ?_
  first
  | refine hq_p 30 (hstep_and _ _ rfl rfl rfl) rfl rfl rfl ?_
  | refine hq_p 30 (hstep_or _ _ rfl rfl rfl) rfl rfl rfl ?_
  | refine hq_p 30 (hstep_ite _ _ _ rfl rfl rfl) rfl rfl rfl ?_
  | refine hq_p 30 (hstep_pick _ _ _ _ rfl rfl rfl (fun _=>.refl _) (fun _=>.refl _)) rfl rfl rfl ?_
  refine sm ?_
  first
  | refine stg 31 (fun hb=>hop_fa fd_88_0 rfl) rfl rfl rfl rfl rfl ?_
  | refine sth 31 (fun hb=>hop_fa fd_88_0 rfl) rfl rfl rfl rfl rfl ?_
  | refine stg 31 (fun hb=>hop_fa_fp fd_88_0 rfl (by first | exact Nat.le_of_ble_eq_true rfl | (simp at hb;first | omega | (dsimp only;omega) | (simp <;> omega)) | omega | (dsimp only;omega))) rfl rfl rfl rfl rfl ?_
  | refine sth 31 (fun hb=>hop_fa_fp fd_88_0 rfl (by first | exact Nat.le_of_ble_eq_true rfl | (simp at hb;first | omega | (dsimp only;omega) | (simp <;> omega)) | omega | (dsimp only;omega))) rfl rfl rfl rfl rfl ?_
  first
  | refine hq_g 33 13 31 false _ (fun hb=>HOp.val (v':=intV (m.getD i default).at_) (hol_load ty_3 rfl (by first | exact Nat.le_of_ble_eq_true rfl | (simp at hb;first | omega | (dsimp only;omega) | (simp <;> omega)) | omega | (dsimp only;omega)) (by first | exact Nat.le_of_ble_eq_true rfl | (simp at hb;first | omega | (dsimp only;omega) | (simp <;> omega)) | omega | (dsimp only;omega)) (fun h=>(by first | rfl | cases h))) (rfl)) rfl rfl rfl rfl (pre1 rfl) rfl rfl rfl ?_
  | refine hq_g2 33 13 31 _ _ false _ (fun hb=>HOp.val (v':=intV (m.getD i default).at_) (hol_load ty_3 rfl (by first | exact Nat.le_of_ble_eq_true rfl | (simp at hb;first | omega | (dsimp only;omega) | (simp <;> omega)) | omega | (dsimp only;omega)) (by first | exact Nat.le_of_ble_eq_true rfl | (simp at hb;first | omega | (dsimp only;omega) | (simp <;> omega)) | omega | (dsimp only;omega)) (fun h=>(by first | rfl | cases h))) (rfl)) rfl rfl rfl rfl (pre1 rfl) rfl rfl rfl ?_
  | refine stg 31 (fun hb=>HOp.val (v':=intV (m.getD i default).at_) (hop_load_fp ty_3 rfl (by first | exact Nat.le_of_ble_eq_true rfl | (simp at hb;first | omega | (dsimp only;omega) | (simp <;> omega)) | omega | (dsimp only;omega)) (fun h=>(by first | rfl | cases h))) (rfl)) rfl rfl rfl rfl rfl ?_
  | refine sth 31 (fun hb=>HOp.val (v':=intV (m.getD i default).at_) (hop_load_fp ty_3 rfl (by first | exact Nat.le_of_ble_eq_true rfl | (simp at hb;first | omega | (dsimp only;omega) | (simp <;> omega)) | omega | (dsimp only;omega)) (fun h=>(by first | rfl | cases h))) (rfl)) rfl rfl rfl rfl rfl ?_
  first
  | refine stg 31 (fun hb=>hop_gtr rfl rfl) rfl rfl rfl rfl rfl ?_
  | refine sth 31 (fun hb=>hop_gtr rfl rfl) rfl rfl rfl rfl rfl ?_
  first
  | refine hq_p 35 (hstep_and _ _ rfl rfl rfl) rfl rfl rfl ?_
  | refine hq_p 35 (hstep_or _ _ rfl rfl rfl) rfl rfl rfl ?_
  | refine hq_p 35 (hstep_ite _ _ _ rfl rfl rfl) rfl rfl rfl ?_
  | refine hq_p 35 (hstep_pick _ _ _ _ rfl rfl rfl (fun _=>.refl _) (fun _=>.refl _)) rfl rfl rfl ?_
  refine sm ?_
  first
  | refine stg 36 (fun hb=>hop_fa fd_88_1 rfl) rfl rfl rfl rfl rfl ?_
  | refine sth 36 (fun hb=>hop_fa fd_88_1 rfl) rfl rfl rfl rfl rfl ?_
  | refine stg 36 (fun hb=>hop_fa_fp fd_88_1 rfl (by first | exact Nat.le_of_ble_eq_true rfl | (simp at hb;first | omega | (dsimp only;omega) | (simp <;> omega)) | omega | (dsimp only;omega))) rfl rfl rfl rfl rfl ?_
  | refine sth 36 (fun hb=>hop_fa_fp fd_88_1 rfl (by first | exact Nat.le_of_ble_eq_true rfl | (simp at hb;first | omega | (dsimp only;omega) | (simp <;> omega)) | omega | (dsimp only;omega))) rfl rfl rfl rfl rfl ?_
  first
  | refine hq_g 38 18 36 false _ (fun hb=>HOp.val (v':=intV (m.getD i default).old) (hol_load ty_3 rfl (by first | exact Nat.le_of_ble_eq_true rfl | (simp at hb;first | omega | (dsimp only;omega) | (simp <;> omega)) | omega | (dsimp only;omega)) (by first | exact Nat.le_of_ble_eq_true rfl | (simp at hb;first | omega | (dsimp only;omega) | (simp <;> omega)) | omega | (dsimp only;omega)) (fun h=>(by first | rfl | cases h))) (rfl)) rfl rfl rfl rfl (pre1 rfl) rfl rfl rfl ?_
  | refine hq_g2 38 18 36 _ _ false _ (fun hb=>HOp.val (v':=intV (m.getD i default).old) (hol_load ty_3 rfl (by first | exact Nat.le_of_ble_eq_true rfl | (simp at hb;first | omega | (dsimp only;omega) | (simp <;> omega)) | omega | (dsimp only;omega)) (by first | exact Nat.le_of_ble_eq_true rfl | (simp at hb;first | omega | (dsimp only;omega) | (simp <;> omega)) | omega | (dsimp only;omega)) (fun h=>(by first | rfl | cases h))) (rfl)) rfl rfl rfl rfl (pre1 rfl) rfl rfl rfl ?_
  | refine stg 36 (fun hb=>HOp.val (v':=intV (m.getD i default).old) (hop_load_fp ty_3 rfl (by first | exact Nat.le_of_ble_eq_true rfl | (simp at hb;first | omega | (dsimp only;omega) | (simp <;> omega)) | omega | (dsimp only;omega)) (fun h=>(by first | rfl | cases h))) (rfl)) rfl rfl rfl rfl rfl ?_
  | refine sth 36 (fun hb=>HOp.val (v':=intV (m.getD i default).old) (hop_load_fp ty_3 rfl (by first | exact Nat.le_of_ble_eq_true rfl | (simp at hb;first | omega | (dsimp only;omega) | (simp <;> omega)) | omega | (dsimp only;omega)) (fun h=>(by first | rfl | cases h))) (rfl)) rfl rfl rfl rfl rfl ?_
  first
  | refine stg 36 (fun hb=>hop_gtr rfl rfl) rfl rfl rfl rfl rfl ?_
  | refine sth 36 (fun hb=>hop_gtr rfl rfl) rfl rfl rfl rfl rfl ?_
  first
  | refine hq_p 40 (hstep_and _ _ rfl rfl rfl) rfl rfl rfl ?_
  | refine hq_p 40 (hstep_or _ _ rfl rfl rfl) rfl rfl rfl ?_
  | refine hq_p 40 (hstep_ite _ _ _ rfl rfl rfl) rfl rfl rfl ?_
  | refine hq_p 40 (hstep_pick _ _ _ _ rfl rfl rfl (fun _=>.refl _) (fun _=>.refl _)) rfl rfl rfl ?_
  refine sm ?_
  first
  | refine stg 41 (fun hb=>hop_fa fd_88_2 rfl) rfl rfl rfl rfl rfl ?_
  | refine sth 41 (fun hb=>hop_fa fd_88_2 rfl) rfl rfl rfl rfl rfl ?_
  | refine stg 41 (fun hb=>hop_fa_fp fd_88_2 rfl (by first | exact Nat.le_of_ble_eq_true rfl | (simp at hb;first | omega | (dsimp only;omega) | (simp <;> omega)) | omega | (dsimp only;omega))) rfl rfl rfl rfl rfl ?_
  | refine sth 41 (fun hb=>hop_fa_fp fd_88_2 rfl (by first | exact Nat.le_of_ble_eq_true rfl | (simp at hb;first | omega | (dsimp only;omega) | (simp <;> omega)) | omega | (dsimp only;omega))) rfl rfl rfl rfl rfl ?_
  first
  | refine hq_g 43 23 41 false _ (fun hb=>HOp.val (v':=intV (m.getD i default).new) (hol_load ty_3 rfl (by first | exact Nat.le_of_ble_eq_true rfl | (simp at hb;first | omega | (dsimp only;omega) | (simp <;> omega)) | omega | (dsimp only;omega)) (by first | exact Nat.le_of_ble_eq_true rfl | (simp at hb;first | omega | (dsimp only;omega) | (simp <;> omega)) | omega | (dsimp only;omega)) (fun h=>(by first | rfl | cases h))) (rfl)) rfl rfl rfl rfl (pre1 rfl) rfl rfl rfl ?_
  | refine hq_g2 43 23 41 _ _ false _ (fun hb=>HOp.val (v':=intV (m.getD i default).new) (hol_load ty_3 rfl (by first | exact Nat.le_of_ble_eq_true rfl | (simp at hb;first | omega | (dsimp only;omega) | (simp <;> omega)) | omega | (dsimp only;omega)) (by first | exact Nat.le_of_ble_eq_true rfl | (simp at hb;first | omega | (dsimp only;omega) | (simp <;> omega)) | omega | (dsimp only;omega)) (fun h=>(by first | rfl | cases h))) (rfl)) rfl rfl rfl rfl (pre1 rfl) rfl rfl rfl ?_
  | refine stg 41 (fun hb=>HOp.val (v':=intV (m.getD i default).new) (hop_load_fp ty_3 rfl (by first | exact Nat.le_of_ble_eq_true rfl | (simp at hb;first | omega | (dsimp only;omega) | (simp <;> omega)) | omega | (dsimp only;omega)) (fun h=>(by first | rfl | cases h))) (rfl)) rfl rfl rfl rfl rfl ?_
  | refine sth 41 (fun hb=>HOp.val (v':=intV (m.getD i default).new) (hop_load_fp ty_3 rfl (by first | exact Nat.le_of_ble_eq_true rfl | (simp at hb;first | omega | (dsimp only;omega) | (simp <;> omega)) | omega | (dsimp only;omega)) (fun h=>(by first | rfl | cases h))) (rfl)) rfl rfl rfl rfl rfl ?_
  first
  | refine stg 41 (fun hb=>hop_gtr rfl rfl) rfl rfl rfl rfl rfl ?_
  | refine sth 41 (fun hb=>hop_gtr rfl rfl) rfl rfl rfl rfl rfl ?_
  first
  | refine hq_p 45 (hstep_and _ _ rfl rfl rfl) rfl rfl rfl ?_
  | refine hq_p 45 (hstep_or _ _ rfl rfl rfl) rfl rfl rfl ?_
  | refine hq_p 45 (hstep_ite _ _ _ rfl rfl rfl) rfl rfl rfl ?_
  | refine hq_p 45 (hstep_pick _ _ _ _ rfl rfl rfl (fun _=>.refl _) (fun _=>.refl _)) rfl rfl rfl ?_
  refine nu ?_
  refine h13 _ ?_
  refine wc (fun hc2=>?_) (fun hc2=>?_)
  ·have hr2:=hc2;(try simp only [hcs,Int.reduceToNat] at hc2)
   have hf:rgOk (-1) m=false:=(by rw [←hrg];rcases hc2 with ((((h | h) | h) | h) | h) | h;(rw [inB,decide_eq_false om];simp);(rw [show inB (m.getD i default).old=false by rw [inB,decide_eq_false om];rfl];simp);(rw [show inB (m.getD i default).new=false by rw [inB,decide_eq_false om];rfl];simp);(rw [show inB (m.getD i default).at_=false by rw [inB,decide_eq_false (p:=_≤1073741824) om,Bool.and_false]];simp);(rw [show inB (m.getD i default).old=false by rw [inB,decide_eq_false (p:=_≤1073741824) om,Bool.and_false]];simp);(rw [show inB (m.getD i default).new=false by rw [inB,decide_eq_false (p:=_≤1073741824) om,Bool.and_false]];simp))
   refine srg fun N h14=>sa<|snl h14<|hw_ret<|hq_then_ret<|hq_block_ret<|hq_then_ret<|hq_then_ret<|hq_block_ret<|hq_then_ret ?_
   refine hq_ret1 rfl (rval_tmp rfl) [] rfl pre0 ?_
   exact Fz.eq (by unfold rightM;rw [hf];simp)
  have hr2:=hc2;(try simp only [hcs,Int.reduceToNat] at hc2)
  have hi1:inB (m.getD i default).at_=true:=inB_iff.2 om;have hi2:inB (m.getD i default).old=true:=inB_iff.2 om;have hi3:inB (m.getD i default).new=true:=inB_iff.2 om;rw [hi1,hi2,hi3] at hrg;simp only [Bool.true_and] at hrg
  refine hw_skip<|h12 _<|hw_seq fun Nh15 h15=>hd_start ?_
  refine dm 1 ?_
  refine d0 2 (hop_gtr rfl rfl) ?_
  refine dm 3 ?_
  first
  | refine hd_g 49 2 48 true _ (fun hb=>hop_fa fd_88_0 rfl) rfl rfl rfl rfl pre0 rfl rfl rfl (k':=4) rfl ?_
  | refine hd_g 49 2 48 true _ (fun hb=>hop_fa_fp fd_88_0 rfl (by first | exact Nat.le_of_ble_eq_true rfl | (simp at hb;first | omega | (dsimp only;omega) | (simp <;> omega)) | omega | (dsimp only;omega))) rfl rfl rfl rfl pre0 rfl rfl rfl (k':=4) rfl ?_
  first
  | refine hd_g 50 2 48 true _ (fun hb=>HOp.val (v':=intV (m.getD i default).at_) (hol_load ty_3 rfl (by first | exact Nat.le_of_ble_eq_true rfl | (simp at hb;first | omega | (dsimp only;omega) | (simp <;> omega)) | omega | (dsimp only;omega)) (by first | exact Nat.le_of_ble_eq_true rfl | (simp at hb;first | omega | (dsimp only;omega) | (simp <;> omega)) | omega | (dsimp only;omega)) (fun h=>(by first | rfl | cases h))) (rfl)) rfl rfl rfl rfl (pre1 rfl) rfl rfl rfl (k':=5) rfl ?_
  | refine hd_g 50 2 48 true _ (fun hb=>HOp.val (v':=intV (m.getD i default).at_) (hop_load_fp ty_3 rfl (by first | exact Nat.le_of_ble_eq_true rfl | (simp at hb;first | omega | (dsimp only;omega) | (simp <;> omega)) | omega | (dsimp only;omega)) (fun h=>(by first | rfl | cases h))) (rfl)) rfl rfl rfl rfl pre0 rfl rfl rfl (k':=5) rfl ?_
  refine hd_g 51 2 48 true _ (fun hb=>hop_move rfl) rfl rfl rfl rfl pre0 rfl rfl rfl (k':=6) rfl ?_
  refine hd_g 52 2 48 true _ (fun hb=>hop_move rfl) rfl rfl rfl rfl pre0 rfl rfl rfl (k':=7) rfl ?_
  first
  | refine hd_g 53 2 48 true _ (fun hb=>hop_subi rfl rfl rfl (by first | exact Nat.le_of_ble_eq_true rfl | (simp at hb;first | omega | (dsimp only;omega) | (simp <;> omega)) | omega | (dsimp only;omega)) (by first | exact Nat.le_of_ble_eq_true rfl | (simp at hb;first | omega | (dsimp only;omega) | (simp <;> omega)) | omega | (dsimp only;omega))) rfl rfl rfl rfl pre0 rfl rfl rfl (k':=8) rfl ?_
  | refine hd_g 53 2 48 true _ (fun hb=>hop_sub rfl rfl) rfl rfl rfl rfl pre0 rfl rfl rfl (k':=8) rfl ?_
  first
  | refine hd_g 54 2 48 true _ (fun hb=>hop_ia_sl el_48 rfl rfl (by first | exact Nat.le_of_ble_eq_true rfl | (simp at hb;first | omega | (dsimp only;omega) | (simp <;> omega)) | omega | (dsimp only;omega)) (by first | exact Nat.le_of_ble_eq_true rfl | (simp at hb;first | omega | (dsimp only;omega) | (simp <;> omega)) | omega | (dsimp only;omega)) (by first | exact Nat.le_of_ble_eq_true rfl | (simp at hb;first | omega | (dsimp only;omega) | (simp <;> omega)) | omega | (dsimp only;omega))) rfl rfl rfl rfl pre0 rfl rfl rfl (k':=9) rfl ?_
  | refine hd_g 54 2 48 true _ (fun hb=>hol_ia_os el_48 rfl rfl (by first | exact Nat.le_of_ble_eq_true rfl | (simp at hb;first | omega | (dsimp only;omega) | (simp <;> omega)) | omega | (dsimp only;omega)) (by first | exact Nat.le_of_ble_eq_true rfl | (simp at hb;first | omega | (dsimp only;omega) | (simp <;> omega)) | omega | (dsimp only;omega))) rfl rfl rfl rfl (pre1 rfl) rfl rfl rfl (k':=9) rfl ?_
  first
  | refine hd_g 55 2 48 true _ (fun hb=>hop_fa fd_88_0 rfl) rfl rfl rfl rfl pre0 rfl rfl rfl (k':=10) rfl ?_
  | refine hd_g 55 2 48 true _ (fun hb=>hop_fa_fp fd_88_0 rfl (by first | exact Nat.le_of_ble_eq_true rfl | (simp at hb;first | omega | (dsimp only;omega) | (simp <;> omega)) | omega | (dsimp only;omega))) rfl rfl rfl rfl pre0 rfl rfl rfl (k':=10) rfl ?_
  first
  | refine hd_g 56 2 48 true _ (fun hb=>HOp.val (v':=intV (m.getD (i - 1) default).at_) (hol_load ty_3 rfl (by first | exact Nat.le_of_ble_eq_true rfl | (simp at hb;first | omega | (dsimp only;omega) | (simp <;> omega)) | omega | (dsimp only;omega)) (by first | exact Nat.le_of_ble_eq_true rfl | (simp at hb;first | omega | (dsimp only;omega) | (simp <;> omega)) | omega | (dsimp only;omega)) (fun h=>(by first | rfl | cases h))) ((by show intV (m.getD ((i:Int) - 1).toNat default).at_=_;rw [show ((i:Int) - 1).toNat=i - 1 by omega]))) rfl rfl rfl rfl (pre1 rfl) rfl rfl rfl (k':=11) rfl ?_
  | refine hd_g 56 2 48 true _ (fun hb=>HOp.val (v':=intV (m.getD (i - 1) default).at_) (hop_load_fp ty_3 rfl (by first | exact Nat.le_of_ble_eq_true rfl | (simp at hb;first | omega | (dsimp only;omega) | (simp <;> omega)) | omega | (dsimp only;omega)) (fun h=>(by first | rfl | cases h))) ((by show intV (m.getD ((i:Int) - 1).toNat default).at_=_;rw [show ((i:Int) - 1).toNat=i - 1 by omega]))) rfl rfl rfl rfl pre0 rfl rfl rfl (k':=11) rfl ?_
  refine hd_g 57 2 48 true _ (fun hb=>hop_move rfl) rfl rfl rfl rfl pre0 rfl rfl rfl (k':=12) rfl ?_
  refine hd_g 58 2 48 true _ (fun hb=>hop_move rfl) rfl rfl rfl rfl pre0 rfl rfl rfl (k':=13) rfl ?_
  first
  | refine hd_g 59 2 48 true _ (fun hb=>hop_subi rfl rfl rfl (by first | exact Nat.le_of_ble_eq_true rfl | (simp at hb;first | omega | (dsimp only;omega) | (simp <;> omega)) | omega | (dsimp only;omega)) (by first | exact Nat.le_of_ble_eq_true rfl | (simp at hb;first | omega | (dsimp only;omega) | (simp <;> omega)) | omega | (dsimp only;omega))) rfl rfl rfl rfl pre0 rfl rfl rfl (k':=14) rfl ?_
  | refine hd_g 59 2 48 true _ (fun hb=>hop_sub rfl rfl) rfl rfl rfl rfl pre0 rfl rfl rfl (k':=14) rfl ?_
  first
  | refine hd_g 60 2 48 true _ (fun hb=>hop_ia_sl el_48 rfl rfl (by first | exact Nat.le_of_ble_eq_true rfl | (simp at hb;first | omega | (dsimp only;omega) | (simp <;> omega)) | omega | (dsimp only;omega)) (by first | exact Nat.le_of_ble_eq_true rfl | (simp at hb;first | omega | (dsimp only;omega) | (simp <;> omega)) | omega | (dsimp only;omega)) (by first | exact Nat.le_of_ble_eq_true rfl | (simp at hb;first | omega | (dsimp only;omega) | (simp <;> omega)) | omega | (dsimp only;omega))) rfl rfl rfl rfl pre0 rfl rfl rfl (k':=15) rfl ?_
  | refine hd_g 60 2 48 true _ (fun hb=>hol_ia_os el_48 rfl rfl (by first | exact Nat.le_of_ble_eq_true rfl | (simp at hb;first | omega | (dsimp only;omega) | (simp <;> omega)) | omega | (dsimp only;omega)) (by first | exact Nat.le_of_ble_eq_true rfl | (simp at hb;first | omega | (dsimp only;omega) | (simp <;> omega)) | omega | (dsimp only;omega))) rfl rfl rfl rfl (pre1 rfl) rfl rfl rfl (k':=15) rfl ?_
  first
  | refine hd_g 61 2 48 true _ (fun hb=>hop_fa fd_88_1 rfl) rfl rfl rfl rfl pre0 rfl rfl rfl (k':=16) rfl ?_
  | refine hd_g 61 2 48 true _ (fun hb=>hop_fa_fp fd_88_1 rfl (by first | exact Nat.le_of_ble_eq_true rfl | (simp at hb;first | omega | (dsimp only;omega) | (simp <;> omega)) | omega | (dsimp only;omega))) rfl rfl rfl rfl pre0 rfl rfl rfl (k':=16) rfl ?_
  first
  | refine hd_g 62 2 48 true _ (fun hb=>HOp.val (v':=intV (m.getD (i - 1) default).old) (hol_load ty_3 rfl (by first | exact Nat.le_of_ble_eq_true rfl | (simp at hb;first | omega | (dsimp only;omega) | (simp <;> omega)) | omega | (dsimp only;omega)) (by first | exact Nat.le_of_ble_eq_true rfl | (simp at hb;first | omega | (dsimp only;omega) | (simp <;> omega)) | omega | (dsimp only;omega)) (fun h=>(by first | rfl | cases h))) ((by show intV (m.getD ((i:Int) - 1).toNat default).old=_;rw [show ((i:Int) - 1).toNat=i - 1 by omega]))) rfl rfl rfl rfl (pre1 rfl) rfl rfl rfl (k':=17) rfl ?_
  | refine hd_g 62 2 48 true _ (fun hb=>HOp.val (v':=intV (m.getD (i - 1) default).old) (hop_load_fp ty_3 rfl (by first | exact Nat.le_of_ble_eq_true rfl | (simp at hb;first | omega | (dsimp only;omega) | (simp <;> omega)) | omega | (dsimp only;omega)) (fun h=>(by first | rfl | cases h))) ((by show intV (m.getD ((i:Int) - 1).toNat default).old=_;rw [show ((i:Int) - 1).toNat=i - 1 by omega]))) rfl rfl rfl rfl pre0 rfl rfl rfl (k':=17) rfl ?_
  first
  | refine hd_g 63 2 48 true _ (fun hb=>hop_addi rfl rfl rfl (by first | exact Nat.le_of_ble_eq_true rfl | (simp at hb;first | omega | (dsimp only;omega) | (simp <;> omega)) | omega | (dsimp only;omega)) (by first | exact Nat.le_of_ble_eq_true rfl | (simp at hb;first | omega | (dsimp only;omega) | (simp <;> omega)) | omega | (dsimp only;omega))) rfl rfl rfl rfl pre0 rfl rfl rfl (k':=18) rfl ?_
  | refine hd_g 63 2 48 true _ (fun hb=>hop_add rfl rfl) rfl rfl rfl rfl pre0 rfl rfl rfl (k':=18) rfl ?_
  refine hd_g 64 2 48 true _ (fun hb=>hop_leq rfl rfl) rfl rfl rfl rfl pre0 rfl rfl rfl (k':=19) rfl ?_
  first
  | refine hd_p 65 (hstep_and _ _ rfl rfl rfl) rfl rfl rfl (k':=20) rfl ?_
  | refine hd_p 65 (hstep_or _ _ rfl rfl rfl) rfl rfl rfl (k':=20) rfl ?_
  | refine hd_p 65 (hstep_pick _ _ _ _ rfl rfl rfl (fun _=>.refl _) (fun _=>.refl _)) rfl rfl rfl (k':=20) rfl ?_
  refine hd_nil kr kr (c':=c+22) rfl ?_
  refine h15 _ ?_
  refine wc (fun hc3=>?_) (fun hc3=>?_)
  ·have hr3:=hc3;(try simp only [hcs,Int.reduceToNat] at hc3)
   have hf:rgOk (-1) m=false:=(by rw [←hrg,decide_eq_false (by rw [endAt_pos m om];omega)];simp)
   refine srg fun N h16=>sa<|snl h16<|hw_ret<|hq_block_ret<|hq_then_ret<|hq_then_ret<|hq_block_ret<|hq_then_ret ?_
   refine hq_ret1 rfl (rval_tmp rfl) [] rfl pre0 ?_
   exact Fz.eq (by unfold rightM;rw [hf];simp)
  have hr3:=hc3;(try simp only [hcs,Int.reduceToNat] at hc3)
  have hlt:endAt m i < (m.getD i default).at_:=(by rcases Nat.eq_zero_or_pos i with h | h;(subst h;rw [endAt_zero];omega);(rw [endAt_pos m h];rw [decide_eq_true om,Bool.true_and,decide_eq_false_iff_not] at hr3;omega));rw [decide_eq_true hlt,Bool.true_and] at hrg
  refine hw_skip<|hq_block<|h10 _<|hw_region<|sm ?_
  first
  | refine hq_ 13 (hop_addi rfl rfl rfl (by first | exact Nat.le_of_ble_eq_true rfl | omega | (dsimp only;omega) | (simp <;> omega)) (by first | exact Nat.le_of_ble_eq_true rfl | omega | (dsimp only;omega) | (simp <;> omega))) rfl rfl pre0 rfl rfl ?_
  | refine hq_ 13 (hop_add rfl rfl) rfl rfl pre0 rfl rfl ?_
  refine sa<|hseq_nil ?_
  exact hL7 (i+1) _ _ (by (try dsimp only);exact ⟨by omega,hrg,fun _=>by rw [endAt_succ,Nat.add_sub_cancel];omega⟩) (by (try dsimp only);omega) (hsub_of rfl (Nat.le_refl _) tsa HpSub.nil)
 have hr1:=hc1;(try simp only [hcs,Int.reduceToNat] at hc1)
 have hil:i=m.length:=om;have hf:rgOk (-1) m=true:=(by rw [←hrg,hil,List.drop_length];rfl)
 refine hw_exit ?_
 refine hq_then_exit<|hq_then_exit<|hq_block_here<|h5 _<|srg fun N h17=>sa<|snl h17<|hw_ret ?_
 refine hq_ret1 rfl (rval_tmp rfl) [] rfl pre0 ?_
 exact Fz.eq (by unfold rightM;rw [hf,decide_eq_true hml];rfl)
theorem shift_h (m:List Rg) (hm:rightM m=true):HPure Try.prog 66 [rgsV m] (intV (shiftTo m m.length)):=by
 obtain ⟨hml,hmr⟩:=rightM_iff.1 hm
 have hrg:=fun i hi=>rg_at hmr (i:=i) hi
 have hsb:=fun i hi=>shift_bd hmr i hi
 refine hpure_of Try.func66 rfl kr _ _ _ rfl 24 rfl rfl (fun w F=>?_)
 refine srg fun N h1=>sa<|snl h1<|hw_seq fun Nh2 h2=>srg fun N h3=>sm ?_
 refine s0 (hop_call0 (xs:=[_]) (right_h m) ⟨rfl,trivial⟩ ⟨fe,trivial⟩) ?_
 refine s0 (hop_not rfl) ?_
 refine snl h3 ?_
 refine wc (fun hc0=>?_) (fun hc0=>?_)
 ·have hr0:=hc0;(try simp only [hcs,Int.reduceToNat] at hc0)
  exfalso;rw [hm] at hr0;simp at hr0
 have hr0:=hc0;(try simp only [hcs,Int.reduceToNat] at hc0)
 refine hw_skip<|h2 _<|srg fun N h4=>sa<|snl h4<|hw_seq fun Nh5 h5=>srg fun N h6=>sm ?_
 first
 | refine hq_ 10 (hop_len_sl (T:=48) rfl (elOf_spec el_48).1 rfl) rfl rfl pre0 rfl rfl ?_
 | refine hq_ 10 (hop_len_os (T:=48) rfl (elOf_spec el_48).1 rfl) rfl rfl pre0 rfl rfl ?_
 | refine hq_ 10 (hop_len_nil (T:=48) rfl (elOf_spec el_48).1 rfl) rfl rfl pre0 rfl rfl ?_
 refine sm<|snl h6<|hw_block ?_
 refine hw_loopc (α:=Nat) (fun x c=>⟨24,[(3,.v (intV (shiftTo m x))),(9,.v (rgsV m)),(10,.v (intV (m.length:Int))),(11,.v (intV (x:Int)))],[],c⟩) (fun x=>x≤m.length) (fun x=>m.length - x) (0) (by exact Nat.zero_le _) (hsub_of rfl (Nat.le_refl _) tsa HpSub.nil) (fun i c hx NhL7 hL7=>?_)
 (try dsimp only at hx hL7 ⊢)
 refine srg fun N h8=>?_
 refine s0 hli ?_
 refine snl h8<|hw_seq fun Nh9 h9=>?_
 refine wc (fun hc1=>?_) (fun hc1=>?_)
 ·have hr1:=hc1;(try simp only [hcs,Int.reduceToNat] at hc1)
  have hil:i < m.length:=om;have h1:=hrg i hil;have h2:=hsb i om
  refine hw_skip<|h9 _<|hw_seq fun Nh10 h10=>hw_block<|srg fun N h11=>?_
  first
  | refine hq_ 13 (hop_ia_sl el_48 rfl rfl (by first | exact Nat.le_of_ble_eq_true rfl | omega | (dsimp only;omega) | (simp <;> omega)) (by first | exact Nat.le_of_ble_eq_true rfl | omega | (dsimp only;omega) | (simp <;> omega)) (by first | exact Nat.le_of_ble_eq_true rfl | omega | (dsimp only;omega) | (simp <;> omega))) rfl rfl pre0 rfl rfl ?_
  | refine hq_ 13 (hol_ia_os el_48 rfl rfl (by first | exact Nat.le_of_ble_eq_true rfl | omega | (dsimp only;omega) | (simp <;> omega)) (by first | exact Nat.le_of_ble_eq_true rfl | omega | (dsimp only;omega) | (simp <;> omega))) rfl rfl (pre1 rfl) rfl rfl ?_
  first
  | refine hq_ 14 (hol_load ty_88 rfl (by first | exact Nat.le_of_ble_eq_true rfl | omega | (dsimp only;omega) | (simp <;> omega)) (by first | exact Nat.le_of_ble_eq_true rfl | omega | (dsimp only;omega) | (simp <;> omega)) (fun h=>(by first | rfl | cases h))) rfl rfl (pre1 rfl) rfl rfl ?_
  | refine hq_ 14 (hop_load_fp ty_88 rfl (by first | exact Nat.le_of_ble_eq_true rfl | omega | (dsimp only;omega) | (simp <;> omega)) (fun h=>(by first | rfl | cases h))) rfl rfl pre0 rfl rfl ?_
  refine hm_1 5 (hop_alloc (id:=5) (sz:=3) zc_88 rfl rfl omx omx) rfl rfl pre0 rfl rfl (c':=c+1) rfl ?_
  first
  | refine hm_s1 (hol_storeW ty_88 rfl rfl rfl rfl) rfl rfl (pre1 rfl) (c':=c+2) rfl ?_
  | refine hm_s1 (hol_store ty_88 rfl rfl rfl rfl (by first | exact Nat.le_of_ble_eq_true rfl | omega | (dsimp only;omega) | (simp <;> omega)) (by first | exact Nat.le_of_ble_eq_true rfl | omega | (dsimp only;omega) | (simp <;> omega)) (by first | exact Nat.le_of_ble_eq_true rfl | omega | (dsimp only;omega) | (simp <;> omega))) rfl rfl (pre1 rfl) (c':=c+2) rfl ?_
  refine snl h11<|hw_region<|sm ?_
  first
  | refine hq_ 16 (hop_fa fd_88_2 rfl) rfl rfl pre0 rfl rfl ?_
  | refine hq_ 16 (hop_fa_fp fd_88_2 rfl (by first | exact Nat.le_of_ble_eq_true rfl | omega | (dsimp only;omega) | (simp <;> omega))) rfl rfl pre0 rfl rfl ?_
  first
  | refine hq_ 17 (HOp.val (v':=intV (m.getD i default).new) (hol_load ty_3 rfl (by first | exact Nat.le_of_ble_eq_true rfl | omega | (dsimp only;omega) | (simp <;> omega)) (by first | exact Nat.le_of_ble_eq_true rfl | omega | (dsimp only;omega) | (simp <;> omega)) (fun h=>(by first | rfl | cases h))) (rfl)) rfl rfl (pre1 rfl) rfl rfl ?_
  | refine hq_ 17 (HOp.val (v':=intV (m.getD i default).new) (hop_load_fp ty_3 rfl (by first | exact Nat.le_of_ble_eq_true rfl | omega | (dsimp only;omega) | (simp <;> omega)) (fun h=>(by first | rfl | cases h))) (rfl)) rfl rfl pre0 rfl rfl ?_
  first
  | refine hq_ 18 (hop_fa fd_88_1 rfl) rfl rfl pre0 rfl rfl ?_
  | refine hq_ 18 (hop_fa_fp fd_88_1 rfl (by first | exact Nat.le_of_ble_eq_true rfl | omega | (dsimp only;omega) | (simp <;> omega))) rfl rfl pre0 rfl rfl ?_
  first
  | refine hq_ 19 (HOp.val (v':=intV (m.getD i default).old) (hol_load ty_3 rfl (by first | exact Nat.le_of_ble_eq_true rfl | omega | (dsimp only;omega) | (simp <;> omega)) (by first | exact Nat.le_of_ble_eq_true rfl | omega | (dsimp only;omega) | (simp <;> omega)) (fun h=>(by first | rfl | cases h))) (rfl)) rfl rfl (pre1 rfl) rfl rfl ?_
  | refine hq_ 19 (HOp.val (v':=intV (m.getD i default).old) (hop_load_fp ty_3 rfl (by first | exact Nat.le_of_ble_eq_true rfl | omega | (dsimp only;omega) | (simp <;> omega)) (fun h=>(by first | rfl | cases h))) (rfl)) rfl rfl pre0 rfl rfl ?_
  first
  | refine hq_ 20 (hop_subi rfl rfl rfl (by first | exact Nat.le_of_ble_eq_true rfl | omega | (dsimp only;omega) | (simp <;> omega)) (by first | exact Nat.le_of_ble_eq_true rfl | omega | (dsimp only;omega) | (simp <;> omega))) rfl rfl pre0 rfl rfl ?_
  | refine hq_ 20 (hop_sub rfl rfl) rfl rfl pre0 rfl rfl ?_
  first
  | refine hq_ 21 (hop_addi rfl rfl rfl (by first | exact Nat.le_of_ble_eq_true rfl | omega | (dsimp only;omega) | (simp <;> omega)) (by first | exact Nat.le_of_ble_eq_true rfl | omega | (dsimp only;omega) | (simp <;> omega))) rfl rfl pre0 rfl rfl ?_
  | refine hq_ 21 (hop_add rfl rfl) rfl rfl pre0 rfl rfl ?_
  refine sa<|hseq_nil<|hq_block<|h10 _<|hw_region ?_
  first
  | refine hq_ 22 (hop_addi rfl rfl rfl (by first | exact Nat.le_of_ble_eq_true rfl | omega | (dsimp only;omega) | (simp <;> omega)) (by first | exact Nat.le_of_ble_eq_true rfl | omega | (dsimp only;omega) | (simp <;> omega))) rfl rfl pre0 rfl rfl ?_
  | refine hq_ 22 (hop_add rfl rfl) rfl rfl pre0 rfl rfl ?_
  refine sm<|hseq_nil ?_
  exact hL7 (i+1) _ _ (by (try dsimp only);omega) (by (try dsimp only);omega) (hsub_of rfl (Nat.le_refl _) tsa HpSub.nil)
 have hr1:=hc1;(try simp only [hcs,Int.reduceToNat] at hc1)
 obtain rfl:i=m.length:=om
 refine hw_exit ?_
 refine hq_then_exit<|hq_then_exit<|hq_block_here<|h5 _<|srg fun N h12=>sm<|sa<|snl h12<|hw_ret ?_
 refine hq_ret1 rfl (rval_tmp rfl) [] rfl pre0 ?_
 exact Frz.fz
theorem shift23_h (m:List Rg) (hmr:rgOk (-1) m=true) (hml:m.length≤1000) (k:Nat) (hk:k≤m.length):HPure Try.prog 69 [rgsV m,intV (k:Int)] (intV (shiftTo m k)):=by
 have hrg:=fun i hi=>rg_at hmr (i:=i) hi
 have hsb:=fun i hi=>shift_bd hmr i hi
 refine hpure_of Try.func69 rfl kr _ _ _ rfl 26 rfl rfl (fun w F=>?_)
 refine srg fun N h1=>sa<|snl h1<|srg fun N h2=>sa<|snl h2<|hw_seq fun Nh3 h3=>srg fun N h4=>sa<|snl h4<|hw_block ?_
 refine hw_loopc (α:=Nat) (fun x c=>⟨26,[(0,.v (rgsV m)),(1,.v (intV (k:Int))),(5,.v (intV (shiftTo m x))),(6,.v (intV (x:Int)))],[],c⟩) (fun x=>x≤k) (fun x=>k - x) (0) (by exact Nat.zero_le _) (hsub_of rfl (Nat.le_refl _) tsa HpSub.nil) (fun i c hx NhL5 hL5=>?_)
 (try dsimp only at hx hL5 ⊢)
 refine hw_seq fun Nh6 h6=>srg fun N h7=>sm<|sm ?_
 refine s0 hli ?_
 refine snl h7 ?_
 refine wc (fun hc0=>?_) (fun hc0=>?_)
 ·have hr0:=hc0;(try simp only [hcs,Int.reduceToNat] at hc0)
  have hil:i < m.length:=om;have h1:=hrg i hil;have h2:=hsb i om
  refine hw_skip<|h6 _<|hw_seq fun Nh8 h8=>hw_block<|hd_start ?_
  refine dm 1 ?_
  refine dm 2 ?_
  refine dm 3 ?_
  first
  | refine hd_q 15 (hop_ia_sl el_48 rfl rfl (by first | exact Nat.le_of_ble_eq_true rfl | omega | (dsimp only;omega) | (simp <;> omega)) (by first | exact Nat.le_of_ble_eq_true rfl | omega | (dsimp only;omega) | (simp <;> omega)) (by first | exact Nat.le_of_ble_eq_true rfl | omega | (dsimp only;omega) | (simp <;> omega))) rfl rfl pre0 rfl rfl (k':=4) rfl ?_
  | refine hd_q 15 (hol_ia_os el_48 rfl rfl (by first | exact Nat.le_of_ble_eq_true rfl | omega | (dsimp only;omega) | (simp <;> omega)) (by first | exact Nat.le_of_ble_eq_true rfl | omega | (dsimp only;omega) | (simp <;> omega))) rfl rfl (pre1 rfl) rfl rfl (k':=4) rfl ?_
  first
  | refine hd_q 16 (hop_fa fd_88_2 rfl) rfl rfl pre0 rfl rfl (k':=5) rfl ?_
  | refine hd_q 16 (hop_fa_fp fd_88_2 rfl (by first | exact Nat.le_of_ble_eq_true rfl | omega | (dsimp only;omega) | (simp <;> omega))) rfl rfl pre0 rfl rfl (k':=5) rfl ?_
  first
  | refine hd_q 17 (HOp.val (v':=intV (m.getD i default).new) (hol_load ty_3 rfl (by first | exact Nat.le_of_ble_eq_true rfl | omega | (dsimp only;omega) | (simp <;> omega)) (by first | exact Nat.le_of_ble_eq_true rfl | omega | (dsimp only;omega) | (simp <;> omega)) (fun h=>(by first | rfl | cases h))) (rfl)) rfl rfl (pre1 rfl) rfl rfl (k':=6) rfl ?_
  | refine hd_q 17 (HOp.val (v':=intV (m.getD i default).new) (hop_load_fp ty_3 rfl (by first | exact Nat.le_of_ble_eq_true rfl | omega | (dsimp only;omega) | (simp <;> omega)) (fun h=>(by first | rfl | cases h))) (rfl)) rfl rfl pre0 rfl rfl (k':=6) rfl ?_
  first
  | refine hd_q 18 (hop_addi rfl rfl rfl (by first | exact Nat.le_of_ble_eq_true rfl | omega | (dsimp only;omega) | (simp <;> omega)) (by first | exact Nat.le_of_ble_eq_true rfl | omega | (dsimp only;omega) | (simp <;> omega))) rfl rfl pre0 rfl rfl (k':=7) rfl ?_
  | refine hd_q 18 (hop_add rfl rfl) rfl rfl pre0 rfl rfl (k':=7) rfl ?_
  refine dm 8 ?_
  refine dm 9 ?_
  first
  | refine hd_q 21 (hop_ia_sl el_48 rfl rfl (by first | exact Nat.le_of_ble_eq_true rfl | omega | (dsimp only;omega) | (simp <;> omega)) (by first | exact Nat.le_of_ble_eq_true rfl | omega | (dsimp only;omega) | (simp <;> omega)) (by first | exact Nat.le_of_ble_eq_true rfl | omega | (dsimp only;omega) | (simp <;> omega))) rfl rfl pre0 rfl rfl (k':=10) rfl ?_
  | refine hd_q 21 (hol_ia_os el_48 rfl rfl (by first | exact Nat.le_of_ble_eq_true rfl | omega | (dsimp only;omega) | (simp <;> omega)) (by first | exact Nat.le_of_ble_eq_true rfl | omega | (dsimp only;omega) | (simp <;> omega))) rfl rfl (pre1 rfl) rfl rfl (k':=10) rfl ?_
  first
  | refine hd_q 22 (hop_fa fd_88_1 rfl) rfl rfl pre0 rfl rfl (k':=11) rfl ?_
  | refine hd_q 22 (hop_fa_fp fd_88_1 rfl (by first | exact Nat.le_of_ble_eq_true rfl | omega | (dsimp only;omega) | (simp <;> omega))) rfl rfl pre0 rfl rfl (k':=11) rfl ?_
  first
  | refine hd_q 23 (HOp.val (v':=intV (m.getD i default).old) (hol_load ty_3 rfl (by first | exact Nat.le_of_ble_eq_true rfl | omega | (dsimp only;omega) | (simp <;> omega)) (by first | exact Nat.le_of_ble_eq_true rfl | omega | (dsimp only;omega) | (simp <;> omega)) (fun h=>(by first | rfl | cases h))) (rfl)) rfl rfl (pre1 rfl) rfl rfl (k':=12) rfl ?_
  | refine hd_q 23 (HOp.val (v':=intV (m.getD i default).old) (hop_load_fp ty_3 rfl (by first | exact Nat.le_of_ble_eq_true rfl | omega | (dsimp only;omega) | (simp <;> omega)) (fun h=>(by first | rfl | cases h))) (rfl)) rfl rfl pre0 rfl rfl (k':=12) rfl ?_
  first
  | refine hd_q 24 (hop_subi rfl rfl rfl (by first | exact Nat.le_of_ble_eq_true rfl | omega | (dsimp only;omega) | (simp <;> omega)) (by first | exact Nat.le_of_ble_eq_true rfl | omega | (dsimp only;omega) | (simp <;> omega))) rfl rfl pre0 rfl rfl (k':=13) rfl ?_
  | refine hd_q 24 (hop_sub rfl rfl) rfl rfl pre0 rfl rfl (k':=13) rfl ?_
  refine d0 14 (hop_assign rfl) ?_
  refine hd_nil kr kr (c':=c+14) rfl ?_
  refine hq_block<|h8 _<|hw_region<|sm ?_
  first
  | refine hq_ 11 (hop_addi rfl rfl rfl (by first | exact Nat.le_of_ble_eq_true rfl | omega | (dsimp only;omega) | (simp <;> omega)) (by first | exact Nat.le_of_ble_eq_true rfl | omega | (dsimp only;omega) | (simp <;> omega))) rfl rfl pre0 rfl rfl ?_
  | refine hq_ 11 (hop_add rfl rfl) rfl rfl pre0 rfl rfl ?_
  refine sa<|hseq_nil ?_
  exact hL5 (i+1) _ _ (by (try dsimp only);omega) (by (try dsimp only);omega) (hsub_of rfl (Nat.le_refl _) (tsr rfl (tsr rfl (TmSub.cons rfl (sb_intV (show _=shiftTo m i+((m.getD i default).new - (m.getD i default).old) by omega)) tsa))) HpSub.nil)
 have hr0:=hc0;(try simp only [hcs,Int.reduceToNat] at hc0)
 obtain rfl:i=k:=om
 refine hw_exit ?_
 refine hq_then_exit<|hq_then_exit<|hq_block_here<|h3 _<|srg fun N h9=>sm<|sa<|snl h9<|hw_ret ?_
 refine hq_ret1 rfl (rval_tmp rfl) [] rfl pre0 ?_
 exact Frz.fz
theorem ranges_h (m:List Rg):HPure Try.prog 64 [rgsV m] (.fn (.func 70) 1 (fun i=>[HV.fp 1 (fun _=>rgsV m)].getD i default)):=by
 refine hpure_of Try.func64 rfl kr _ _ _ rfl 4 rfl rfl (fun w F=>?_)
 refine srg fun N h1=>?_
 refine hm_1 1 (hop_box (id:=1) (sz:=1) rfl rfl rfl omx omx) rfl rfl pre0 rfl rfl (c':=1) rfl ?_
 refine sa<|snl h1<|srg fun N h2=>?_
 refine s0 (hop_makeFunc (hs:=[_]) ⟨rfl,trivial⟩) ?_
 refine sa<|snl h2<|hw_ret ?_
 refine hq_ret1 rfl (rval_tmp rfl) [(1,_)] rfl (preC rfl pre0) ?_
 exact .fn _ _ _ _ (fun i hi=>by obtain rfl:i=0:=(by simpa using hi);exact .pt 1 0 0 0 1 _ (fun _=>rgsV m) (List.mem_cons_self ..) rfl (Nat.lt_succ_self 0) (Nat.le_refl 1) (fun j hj=>show Fz _ (rgsV m) (rgsV m) from Frz.fz))
theorem ranges_it (m:List Rg) (hm:rightM m=true):HIter Try.prog 70 [.fp 1 (fun _=>rgsV m)] m.length (fun i=>[intV (i:Int),intV (shiftTo m i)]):=by
 obtain ⟨hml,hmr⟩:=rightM_iff.1 hm
 have hrg:=fun i hi=>rg_at hmr (i:=i) hi
 have hsb:=fun i hi=>shift_bd hmr i hi
 refine hiter_of Try.func70 rfl kr _ _ _ _ rfl 26 rfl rfl (fun X hXN hXy O W F hg=>?_)
 refine hw_seqC (fun Nh1 h1=>?_)
 refine hw_region<|sa<|hseq_nil ?_
 refine h1 _ _ rfl ?_
 refine hw_seqC (fun Nh2 h2=>?_)
 refine hw_region ?_
 first
 | refine hq_ 6 (hol_load ty_48 rfl (by first | exact Nat.le_of_ble_eq_true rfl | omega | (dsimp only;omega) | (simp <;> omega)) (by first | exact Nat.le_of_ble_eq_true rfl | omega | (dsimp only;omega) | (simp <;> omega)) (fun h=>(by first | rfl | cases h))) rfl rfl (pre1 rfl) rfl rfl ?_
 | refine hq_ 6 (hop_load_fp ty_48 rfl (by first | exact Nat.le_of_ble_eq_true rfl | omega | (dsimp only;omega) | (simp <;> omega)) (fun h=>(by first | rfl | cases h))) rfl rfl pre0 rfl rfl ?_
 first
 | refine hq_ 7 (hop_len_sl (T:=48) rfl (elOf_spec el_48).1 rfl) rfl rfl pre0 rfl rfl ?_
 | refine hq_ 7 (hop_len_os (T:=48) rfl (elOf_spec el_48).1 rfl) rfl rfl pre0 rfl rfl ?_
 | refine hq_ 7 (hop_len_nil (T:=48) rfl (elOf_spec el_48).1 rfl) rfl rfl pre0 rfl rfl ?_
 refine sm<|hseq_nil ?_
 refine h2 _ _ rfl ?_
 refine hw_block ?_
 refine hw_loopI (α:=Nat) (fun x=>[(0,.v (.fn (.yield X.l) 0 fun _=>default)),(3,.v (intV (shiftTo m x))),(6,.v (rgsV m)),(7,.v (intV (m.length:Int))),(8,.v (intV (x:Int)))]) (fun x=>x≤m.length) (fun x=>x) (fun x=>m.length - x) (0) (by exact Nat.zero_le _) (by first | exact hg | simpa using hg) (hsub_of rfl (Nat.le_refl _) tsa HpSub.nil) (fun i O W F c hx hg NhL3 hL3=>?_)
 (try dsimp only at hx hg hL3 ⊢)
 refine hw_seqC (fun Nh4 h4=>?_)
 refine hw_region ?_
 refine s0 hli ?_
 refine hseq_nil ?_
 refine h4 _ _ rfl ?_
 refine hw_seqC (fun Nh5 h5=>?_)
 refine wc (fun hc0=>?_) (fun hc0=>?_)
 ·have hr0:=hc0;(try simp only [hcs,Int.reduceToNat] at hc0)
  have hil:i < m.length:=om;have h1:=hrg i hil;have h2:=hsb i om
  refine hw_skip ?_
  refine h5 _ _ rfl ?_
  refine hw_seqC (fun Nh6 h6=>?_)
  refine hw_block ?_
  refine hw_seqC (fun Nh7 h7=>?_)
  refine hw_region<|sm ?_
  first
  | refine hq_ 11 (hop_ia_sl el_48 rfl rfl (by first | exact Nat.le_of_ble_eq_true rfl | omega | (dsimp only;omega) | (simp <;> omega)) (by first | exact Nat.le_of_ble_eq_true rfl | omega | (dsimp only;omega) | (simp <;> omega)) (by first | exact Nat.le_of_ble_eq_true rfl | omega | (dsimp only;omega) | (simp <;> omega))) rfl rfl pre0 rfl rfl ?_
  | refine hq_ 11 (hol_ia_os el_48 rfl rfl (by first | exact Nat.le_of_ble_eq_true rfl | omega | (dsimp only;omega) | (simp <;> omega)) (by first | exact Nat.le_of_ble_eq_true rfl | omega | (dsimp only;omega) | (simp <;> omega))) rfl rfl (pre1 rfl) rfl rfl ?_
  first
  | refine hq_ 12 (hol_load ty_88 rfl (by first | exact Nat.le_of_ble_eq_true rfl | omega | (dsimp only;omega) | (simp <;> omega)) (by first | exact Nat.le_of_ble_eq_true rfl | omega | (dsimp only;omega) | (simp <;> omega)) (fun h=>(by first | rfl | cases h))) rfl rfl (pre1 rfl) rfl rfl ?_
  | refine hq_ 12 (hop_load_fp ty_88 rfl (by first | exact Nat.le_of_ble_eq_true rfl | omega | (dsimp only;omega) | (simp <;> omega)) (fun h=>(by first | rfl | cases h))) rfl rfl pre0 rfl rfl ?_
  refine hm_1 5 (hop_alloc (id:=5) (sz:=3) zc_88 rfl rfl omx omx) rfl rfl pre0 rfl rfl (c':=c+1) rfl ?_
  refine sa ?_
  first
  | refine hm_s1 (hol_storeW ty_88 rfl rfl rfl rfl) rfl rfl (pre1 rfl) (c':=c+2) rfl ?_
  | refine hm_s1 (hol_store ty_88 rfl rfl rfl rfl (by first | exact Nat.le_of_ble_eq_true rfl | omega | (dsimp only;omega) | (simp <;> omega)) (by first | exact Nat.le_of_ble_eq_true rfl | omega | (dsimp only;omega) | (simp <;> omega)) (by first | exact Nat.le_of_ble_eq_true rfl | omega | (dsimp only;omega) | (simp <;> omega))) rfl rfl (pre1 rfl) (c':=c+2) rfl ?_
  refine hseq_nil ?_
  refine h7 _ _ rfl ?_
  refine hw_seqC (fun Nh8 h8=>?_)
  refine hw_seqC (fun Nh9 h9=>?_)
  refine hw_region<|sm<|sm<|sm ?_
  refine (hsub_shr 5 [(5,_)] rfl (preC rfl pre0) rfl ((show Fz _ _ (.fp 3 (rgF (m.getD i default))) from .pt 5 _ 0 0 3 _ _ (.head _) rfl (Nat.lt_succ_self 0) (Nat.le_refl _) (fun j hj=>by rw [Nat.zero_add];match j,hj with | 0,_=>exact .imm _ | 1,_=>exact .imm _ | 2,_=>exact .imm _)))).seq ?_
  refine hq_yield hg (by rw [hXN];omega) (xs:=[_,_]) [(5,.v (.fp 3 (rgF (m.getD i default)))),(0,.v (.fn (.yield X.l) 0 fun _=>default)),(3,.v (intV (shiftTo m i))),(6,.v (rgsV m)),(7,.v (intV (m.length:Int))),(8,.v (intV (i:Int)))] rfl ⟨rfl,⟨rfl,trivial⟩⟩ (by rw [hXy];exact ⟨.imm _,.imm _,trivial⟩) (TmFz.cons rfl (Fz.eq rfl) (TmFz.cons rfl (Fz.eq rfl) (TmFz.cons rfl (Fz.eq rfl) (TmFz.cons rfl (Fz.eq rfl) (TmFz.cons rfl (Fz.eq rfl) (TmFz.cons rfl (Fz.eq rfl) TmFz.nil)))))) rfl (fun O W F hg=>?_) (fun W F hfr hjx=>?_)
  ·skip
   refine s0 (hop_not rfl) ?_
   refine hseq_nil ?_
   refine h9 _ _ rfl ?_
   refine wc (fun hc1=>?_) (fun hc1=>?_)
   ·have hr1:=hc1;(try simp only [hcs,Int.reduceToNat] at hc1)
    exfalso;simp at hr1
   have hr1:=hc1;(try simp only [hcs,Int.reduceToNat] at hc1)
   refine hw_skip ?_
   refine h8 _ _ rfl ?_
   refine hw_region<|sm ?_
   first
   | refine hq_ 19 (hop_fa fd_88_2 rfl) rfl rfl pre0 rfl rfl ?_
   | refine hq_ 19 (hop_fa_fp fd_88_2 rfl (by first | exact Nat.le_of_ble_eq_true rfl | omega | (dsimp only;omega) | (simp <;> omega))) rfl rfl pre0 rfl rfl ?_
   first
   | refine hq_ 20 (HOp.val (v':=intV (m.getD i default).new) (hol_load ty_3 rfl (by first | exact Nat.le_of_ble_eq_true rfl | omega | (dsimp only;omega) | (simp <;> omega)) (by first | exact Nat.le_of_ble_eq_true rfl | omega | (dsimp only;omega) | (simp <;> omega)) (fun h=>(by first | rfl | cases h))) (rfl)) rfl rfl (pre1 rfl) rfl rfl ?_
   | refine hq_ 20 (HOp.val (v':=intV (m.getD i default).new) (hop_load_fp ty_3 rfl (by first | exact Nat.le_of_ble_eq_true rfl | omega | (dsimp only;omega) | (simp <;> omega)) (fun h=>(by first | rfl | cases h))) (rfl)) rfl rfl pre0 rfl rfl ?_
   first
   | refine hq_ 21 (hop_fa fd_88_1 rfl) rfl rfl pre0 rfl rfl ?_
   | refine hq_ 21 (hop_fa_fp fd_88_1 rfl (by first | exact Nat.le_of_ble_eq_true rfl | omega | (dsimp only;omega) | (simp <;> omega))) rfl rfl pre0 rfl rfl ?_
   first
   | refine hq_ 22 (HOp.val (v':=intV (m.getD i default).old) (hol_load ty_3 rfl (by first | exact Nat.le_of_ble_eq_true rfl | omega | (dsimp only;omega) | (simp <;> omega)) (by first | exact Nat.le_of_ble_eq_true rfl | omega | (dsimp only;omega) | (simp <;> omega)) (fun h=>(by first | rfl | cases h))) (rfl)) rfl rfl (pre1 rfl) rfl rfl ?_
   | refine hq_ 22 (HOp.val (v':=intV (m.getD i default).old) (hop_load_fp ty_3 rfl (by first | exact Nat.le_of_ble_eq_true rfl | omega | (dsimp only;omega) | (simp <;> omega)) (fun h=>(by first | rfl | cases h))) (rfl)) rfl rfl pre0 rfl rfl ?_
   first
   | refine hq_ 23 (hop_subi rfl rfl rfl (by first | exact Nat.le_of_ble_eq_true rfl | omega | (dsimp only;omega) | (simp <;> omega)) (by first | exact Nat.le_of_ble_eq_true rfl | omega | (dsimp only;omega) | (simp <;> omega))) rfl rfl pre0 rfl rfl ?_
   | refine hq_ 23 (hop_sub rfl rfl) rfl rfl pre0 rfl rfl ?_
   first
   | refine hq_ 24 (hop_addi rfl rfl rfl (by first | exact Nat.le_of_ble_eq_true rfl | omega | (dsimp only;omega) | (simp <;> omega)) (by first | exact Nat.le_of_ble_eq_true rfl | omega | (dsimp only;omega) | (simp <;> omega))) rfl rfl pre0 rfl rfl ?_
   | refine hq_ 24 (hop_add rfl rfl) rfl rfl pre0 rfl rfl ?_
   refine sa<|hseq_nil<|hq_block ?_
   refine h6 _ _ rfl ?_
   refine hw_region ?_
   first
   | refine hq_ 25 (hop_addi rfl rfl rfl (by first | exact Nat.le_of_ble_eq_true rfl | omega | (dsimp only;omega) | (simp <;> omega)) (by first | exact Nat.le_of_ble_eq_true rfl | omega | (dsimp only;omega) | (simp <;> omega))) rfl rfl pre0 rfl rfl ?_
   | refine hq_ 25 (hop_add rfl rfl) rfl rfl pre0 rfl rfl ?_
   refine sm<|hseq_nil ?_
   exact hL3 (i+1) O W F _ _ (by (try dsimp only);omega) (by (try dsimp only);omega) (by (try dsimp only);first | exact hg | simpa using hg) (hsub_of rfl (Nat.le_refl _) tsa HpSub.nil)
  ·skip
   refine s0 (hop_not rfl) ?_
   refine hseq_nil ?_
   refine h9 _ _ rfl ?_
   refine wc (fun hc1=>?_) (fun hc1=>?_)
   ·have hr1:=hc1;(try simp only [hcs,Int.reduceToNat] at hc1)
    refine hw_ret<|hq_then_ret<|hq_block_ret<|hq_then_ret<|hq_then_ret<|hq_block_ret ?_
    refine hq_retI rfl ?_
    exact .inr ⟨_,by rw [hXN];omega,hjx⟩
   have hr1:=hc1;(try simp only [hcs,Int.reduceToNat] at hc1)
   exfalso;simp at hr1
 have hr0:=hc0;(try simp only [hcs,Int.reduceToNat] at hc0)
 refine hw_exit ?_
 refine hq_then_exit<|hq_then_exit<|hq_block_here ?_
 refine hq_fall ?_
 refine hq_retI rfl ?_
 obtain rfl:i=m.length:=om;exact .inl ⟨O,by have hj:=hg.j;rw [hXN];simpa using hj⟩
def plcF (p:Plc):Nat→HV
 | 0=>intV p.pos
 | 1=>boolV p.gone
 | 2=>boolV p.ins
 | 3=>intV p.rng
 | _=>intV p.off
@[reducible] def plcH (p:Plc):HV:=.agg 5 (plcF p)
theorem fz_plcF {sh:List (Nat×HObj)} (p:Plc) (j:Nat):Fz sh (plcF p j) (plcF p j):=by unfold plcF;split <;> exact .imm _
instance (p:Plc) (j:Nat):Frz (plcF p j):=⟨fz_plcF p j⟩
theorem fz_plc {sh:List (Nat×HObj)} {f:Nat→HV} {p:Plc} (h:∀ j,j < 5→f j=plcF p j):Fz sh (.agg 5 f) (plcH p):=.agg _ _ _ fun j hj=>by rw [h j hj];exact fz_plcF p j
theorem j5i {f g:Nat→HV} (h0:f 0=g 0) (h1:f 1=g 1) (h2:f 2=g 2) (h3:f 3=g 3) (h4:f 4=g 4):∀ j,j < 5→f j=g j:=fun j hj=>by
 match j,hj with | 0,_=>exact h0 | 1,_=>exact h1 | 2,_=>exact h2 | 3,_=>exact h3 | 4,_=>exact h4
@[reducible] def plcO (g:Nat) (p:Plc):HObj:=⟨g,1,5,100,0,fun _=>plcF p⟩
theorem osub_plc {g:Nat} {F:Nat→Nat→HV} {p:Plc} (h:∀ j,j < 5→F 0 j=plcF p j):OSub ⟨g,1,5,100,0,F⟩ (plcO g p):=OSub.of fun i j hi hj=>by
 obtain rfl:i=0:=by omega
 rw [h j hj];exact .refl _
def rgtV (r:Rg) (pos side:Int):Bool:=if r.old > 0∧(pos=r.at_∨pos=r.at_+r.old) then decide (pos=r.at_+r.old) else decide (side≥0)
def gonV (r:Rg) (pos side:Int):Bool:=if side < 0 then decide (pos > r.at_) else decide (pos < r.at_+r.old)
def insV (r:Rg) (pos:Int):Bool:=decide (pos > r.at_)&&decide (pos < r.at_+r.old)
theorem withinV_eq (r:Rg) (i sh pos side:Int):withinV r i sh pos side=⟨r.at_+sh+(if rgtV r pos side=true then r.new else 0),gonV r pos side,insV r pos,if gonV r pos side=true then i else 0,if gonV r pos side=true then pos - r.at_ else 0⟩:=rfl
theorem within_h (r:Rg) (hr:(0≤r.at_∧r.at_≤1073741824)∧(0≤r.old∧r.old≤1073741824)∧(0≤r.new∧r.new≤1073741824)) (i0 sh0 pos side:Int) (hsh:-1073741824000≤sh0∧sh0≤1073741824000) (hpos:0≤pos∧pos≤1099511627776) :
  HPure Try.prog 65 [rgH r,intV i0,intV sh0,intV pos,intV side] (plcH (withinV r i0 sh0 pos side)):=by
 refine hpure_of Try.func65 rfl kr _ _ _ rfl 80 rfl rfl (fun w F=>?_)
 refine srg fun N h1=>?_
 refine hm_1 5 (hop_box (id:=5) (sz:=3) rfl rfl rfl omx omx) rfl rfl pre0 rfl rfl (c':=1) rfl ?_
 refine hm_1 10 (hop_alloc (id:=10) (sz:=5) zc_100 rfl rfl omx omx) rfl rfl pre0 rfl rfl (c':=2) rfl ?_
 refine snl h1<|srg fun N h2=>?_
 first
 | refine hq_ 14 (hop_fa fd_88_0 rfl) rfl rfl pre0 rfl rfl ?_
 | refine hq_ 14 (hop_fa_fp fd_88_0 rfl (by first | exact Nat.le_of_ble_eq_true rfl | omega | (dsimp only;omega) | (simp <;> omega))) rfl rfl pre0 rfl rfl ?_
 first
 | refine hq_ 15 (HOp.val (v':=intV r.at_) (hol_load ty_3 rfl (by first | exact Nat.le_of_ble_eq_true rfl | omega | (dsimp only;omega) | (simp <;> omega)) (by first | exact Nat.le_of_ble_eq_true rfl | omega | (dsimp only;omega) | (simp <;> omega)) (fun h=>(by first | rfl | cases h))) (rfl)) rfl rfl (pre1 rfl) rfl rfl ?_
 | refine hq_ 15 (HOp.val (v':=intV r.at_) (hop_load_fp ty_3 rfl (by first | exact Nat.le_of_ble_eq_true rfl | omega | (dsimp only;omega) | (simp <;> omega)) (fun h=>(by first | rfl | cases h))) (rfl)) rfl rfl pre0 rfl rfl ?_
 first
 | refine hq_ 16 (hop_fa fd_88_1 rfl) rfl rfl pre0 rfl rfl ?_
 | refine hq_ 16 (hop_fa_fp fd_88_1 rfl (by first | exact Nat.le_of_ble_eq_true rfl | omega | (dsimp only;omega) | (simp <;> omega))) rfl rfl pre0 rfl rfl ?_
 first
 | refine hq_ 17 (HOp.val (v':=intV r.old) (hol_load ty_3 rfl (by first | exact Nat.le_of_ble_eq_true rfl | omega | (dsimp only;omega) | (simp <;> omega)) (by first | exact Nat.le_of_ble_eq_true rfl | omega | (dsimp only;omega) | (simp <;> omega)) (fun h=>(by first | rfl | cases h))) (rfl)) rfl rfl (pre1 rfl) rfl rfl ?_
 | refine hq_ 17 (HOp.val (v':=intV r.old) (hop_load_fp ty_3 rfl (by first | exact Nat.le_of_ble_eq_true rfl | omega | (dsimp only;omega) | (simp <;> omega)) (fun h=>(by first | rfl | cases h))) (rfl)) rfl rfl pre0 rfl rfl ?_
 first
 | refine hq_ 18 (hop_addi rfl rfl rfl (by first | exact Nat.le_of_ble_eq_true rfl | omega | (dsimp only;omega) | (simp <;> omega)) (by first | exact Nat.le_of_ble_eq_true rfl | omega | (dsimp only;omega) | (simp <;> omega))) rfl rfl pre0 rfl rfl ?_
 | refine hq_ 18 (hop_add rfl rfl) rfl rfl pre0 rfl rfl ?_
 refine sa<|snl h2<|srg fun N h3=>sm ?_
 refine s0 (hop_geq rfl rfl) ?_
 refine sa<|snl h3 ?_
 refine hw_joinc (α:=Nat) (fun x c=>⟨80,[(1,.v (intV i0)),(2,.v (intV sh0)),(3,.v (intV pos)),(4,.v (intV side)),(5,.v (.pt 5 0 0 0)),(10,.v (.pt 10 1 0 0)),(11,.v (intV (r.at_+r.old))),(12,.v (boolV (rgtV r pos side)))],[(5,⟨0,1,3,88,0,fun _=>rgF r⟩),(10,plcO 1 ⟨0,false,false,0,0⟩)],c⟩) (fun x=>x=0) (fun NhJ4 hJ4=>?_) (fun u c hx=>?_)
 ·skip
  refine srg fun N h5=>?_
  first
  | refine hq_ 21 (hop_fa fd_88_1 rfl) rfl rfl pre0 rfl rfl ?_
  | refine hq_ 21 (hop_fa_fp fd_88_1 rfl (by first | exact Nat.le_of_ble_eq_true rfl | omega | (dsimp only;omega) | (simp <;> omega))) rfl rfl pre0 rfl rfl ?_
  first
  | refine hq_ 22 (HOp.val (v':=intV r.old) (hol_load ty_3 rfl (by first | exact Nat.le_of_ble_eq_true rfl | omega | (dsimp only;omega) | (simp <;> omega)) (by first | exact Nat.le_of_ble_eq_true rfl | omega | (dsimp only;omega) | (simp <;> omega)) (fun h=>(by first | rfl | cases h))) (rfl)) rfl rfl (pre1 rfl) rfl rfl ?_
  | refine hq_ 22 (HOp.val (v':=intV r.old) (hop_load_fp ty_3 rfl (by first | exact Nat.le_of_ble_eq_true rfl | omega | (dsimp only;omega) | (simp <;> omega)) (fun h=>(by first | rfl | cases h))) (rfl)) rfl rfl pre0 rfl rfl ?_
  refine s0 (hop_gtr rfl rfl) ?_
  refine sm ?_
  first
  | refine stg 24 (fun hb=>hop_move rfl) rfl rfl rfl rfl rfl ?_
  | refine sth 24 (fun hb=>hop_move rfl) rfl rfl rfl rfl rfl ?_
  first
  | refine stg 24 (fun hb=>hop_fa fd_88_0 rfl) rfl rfl rfl rfl rfl ?_
  | refine sth 24 (fun hb=>hop_fa fd_88_0 rfl) rfl rfl rfl rfl rfl ?_
  | refine stg 24 (fun hb=>hop_fa_fp fd_88_0 rfl (by first | exact Nat.le_of_ble_eq_true rfl | (simp at hb;first | omega | (dsimp only;omega) | (simp <;> omega)) | omega | (dsimp only;omega))) rfl rfl rfl rfl rfl ?_
  | refine sth 24 (fun hb=>hop_fa_fp fd_88_0 rfl (by first | exact Nat.le_of_ble_eq_true rfl | (simp at hb;first | omega | (dsimp only;omega) | (simp <;> omega)) | omega | (dsimp only;omega))) rfl rfl rfl rfl rfl ?_
  first
  | refine hq_g 27 3 24 true _ (fun hb=>HOp.val (v':=intV r.at_) (hol_load ty_3 rfl (by first | exact Nat.le_of_ble_eq_true rfl | (simp at hb;first | omega | (dsimp only;omega) | (simp <;> omega)) | omega | (dsimp only;omega)) (by first | exact Nat.le_of_ble_eq_true rfl | (simp at hb;first | omega | (dsimp only;omega) | (simp <;> omega)) | omega | (dsimp only;omega)) (fun h=>(by first | rfl | cases h))) (rfl)) rfl rfl rfl rfl (pre1 rfl) rfl rfl rfl ?_
  | refine hq_g2 27 3 24 _ _ true _ (fun hb=>HOp.val (v':=intV r.at_) (hol_load ty_3 rfl (by first | exact Nat.le_of_ble_eq_true rfl | (simp at hb;first | omega | (dsimp only;omega) | (simp <;> omega)) | omega | (dsimp only;omega)) (by first | exact Nat.le_of_ble_eq_true rfl | (simp at hb;first | omega | (dsimp only;omega) | (simp <;> omega)) | omega | (dsimp only;omega)) (fun h=>(by first | rfl | cases h))) (rfl)) rfl rfl rfl rfl (pre1 rfl) rfl rfl rfl ?_
  | refine stg 24 (fun hb=>HOp.val (v':=intV r.at_) (hop_load_fp ty_3 rfl (by first | exact Nat.le_of_ble_eq_true rfl | (simp at hb;first | omega | (dsimp only;omega) | (simp <;> omega)) | omega | (dsimp only;omega)) (fun h=>(by first | rfl | cases h))) (rfl)) rfl rfl rfl rfl rfl ?_
  | refine sth 24 (fun hb=>HOp.val (v':=intV r.at_) (hop_load_fp ty_3 rfl (by first | exact Nat.le_of_ble_eq_true rfl | (simp at hb;first | omega | (dsimp only;omega) | (simp <;> omega)) | omega | (dsimp only;omega)) (fun h=>(by first | rfl | cases h))) (rfl)) rfl rfl rfl rfl rfl ?_
  first
  | refine stg 24 (fun hb=>hop_eql rfl rfl) rfl rfl rfl rfl rfl ?_
  | refine sth 24 (fun hb=>hop_eql rfl rfl) rfl rfl rfl rfl rfl ?_
  first
  | refine stg 24 (fun hb=>hop_move rfl) rfl rfl rfl rfl rfl ?_
  | refine sth 24 (fun hb=>hop_move rfl) rfl rfl rfl rfl rfl ?_
  first
  | refine stg 29 (fun hb=>hop_move rfl) rfl rfl rfl rfl rfl ?_
  | refine hq_g3 30 8 29 24 true false _ _ (fun hb hb2=>hop_move rfl) rfl rfl rfl rfl rfl pre0 rfl rfl rfl ?_
  | refine sth 29 (fun hb=>hop_move rfl) rfl rfl rfl rfl rfl ?_
  first
  | refine stg 29 (fun hb=>hop_move rfl) rfl rfl rfl rfl rfl ?_
  | refine hq_g3 31 8 29 24 true false _ _ (fun hb hb2=>hop_move rfl) rfl rfl rfl rfl rfl pre0 rfl rfl rfl ?_
  | refine sth 29 (fun hb=>hop_move rfl) rfl rfl rfl rfl rfl ?_
  first
  | refine stg 29 (fun hb=>hop_eql rfl rfl) rfl rfl rfl rfl rfl ?_
  | refine hq_g3 32 8 29 24 true false _ _ (fun hb hb2=>hop_eql rfl rfl) rfl rfl rfl rfl rfl pre0 rfl rfl rfl ?_
  | refine sth 29 (fun hb=>hop_eql rfl rfl) rfl rfl rfl rfl rfl ?_
  first
  | refine hq_pg 33 (hstep_andg (gi:=3) (j:=24) _ _ rfl rfl rfl rfl) rfl rfl rfl rfl ?_
  | refine hq_pg 33 (hstep_org (gi:=3) (j:=24) _ _ rfl rfl rfl rfl) rfl rfl rfl rfl ?_
  | refine hq_pg 33 (hstep_pickg (gi:=3) (j:=24) _ _ _ _ rfl rfl rfl rfl (fun _=>.refl _) (fun _=>.refl _)) rfl rfl rfl rfl ?_
  first
  | refine hq_p 34 (hstep_and _ _ rfl rfl rfl) rfl rfl rfl ?_
  | refine hq_p 34 (hstep_or _ _ rfl rfl rfl) rfl rfl rfl ?_
  | refine hq_p 34 (hstep_ite _ _ _ rfl rfl rfl) rfl rfl rfl ?_
  | refine hq_p 34 (hstep_pick _ _ _ _ rfl rfl rfl (fun _=>.refl _) (fun _=>.refl _)) rfl rfl rfl ?_
  refine nu ?_
  refine h5 _ ?_
  refine wc (fun hc0=>?_) (fun hc0=>?_)
  ·have hr0:=hc0;(try simp only [hcs,Int.reduceToNat] at hc0)
   refine hw_region<|sm<|sm ?_
   refine s0 hqi ?_
   refine sa<|hseq_nil ?_
   exact hJ4 (0) _ _ (by (try dsimp only);skip) (hsub_of rfl (Nat.le_refl _) (tsr rfl (tsr rfl (tsr rfl (tsr rfl (tsr rfl (tsr rfl (tsr rfl (TmSub.cons rfl (by rw [show rgtV r pos side=(pos == r.at_+r.old) by unfold rgtV;rw [if_pos hc0];rfl];exact .refl _) TmSub.nil)))))))) (HpSub.cons rfl (OSub.of fun i j hi hj=>.refl _) (HpSub.cons rfl (osub_plc (by exact j5i rfl rfl rfl rfl rfl)) HpSub.nil)))
  have hr0:=hc0;(try simp only [hcs,Int.reduceToNat] at hc0)
  refine hw_skip ?_
  exact hJ4 (0) _ _ (by (try dsimp only);skip) (hsub_of rfl (Nat.le_refl _) (tsr rfl (tsr rfl (tsr rfl (tsr rfl (tsr rfl (tsr rfl (tsr rfl (TmSub.cons rfl (by rw [show rgtV r pos side=decide (0≤side) by unfold rgtV;rw [if_neg (by intro h;have h9:=hr0;rw [decide_eq_true h.1,Bool.true_and] at h9;rcases h.2 with h2 | h2 <;> simp [h2] at h9)]];exact .refl _) TmSub.nil)))))))) (HpSub.cons rfl (OSub.of fun i j hi hj=>.refl _) (HpSub.cons rfl (osub_plc (by exact j5i rfl rfl rfl rfl rfl)) HpSub.nil)))
 ·skip
  (try dsimp only at hx ⊢)
  refine hw_seq (fun Nh6 h6=>?_)
  let c0:=c
  refine hw_region ?_
  first
  | refine hq_ 38 (hop_fa fd_88_0 rfl) rfl rfl pre0 rfl rfl ?_
  | refine hq_ 38 (hop_fa_fp fd_88_0 rfl (by first | exact Nat.le_of_ble_eq_true rfl | omega | (dsimp only;omega) | (simp <;> omega))) rfl rfl pre0 rfl rfl ?_
  first
  | refine hq_ 39 (HOp.val (v':=intV r.at_) (hol_load ty_3 rfl (by first | exact Nat.le_of_ble_eq_true rfl | omega | (dsimp only;omega) | (simp <;> omega)) (by first | exact Nat.le_of_ble_eq_true rfl | omega | (dsimp only;omega) | (simp <;> omega)) (fun h=>(by first | rfl | cases h))) (rfl)) rfl rfl (pre1 rfl) rfl rfl ?_
  | refine hq_ 39 (HOp.val (v':=intV r.at_) (hop_load_fp ty_3 rfl (by first | exact Nat.le_of_ble_eq_true rfl | omega | (dsimp only;omega) | (simp <;> omega)) (fun h=>(by first | rfl | cases h))) (rfl)) rfl rfl pre0 rfl rfl ?_
  refine sm ?_
  first
  | refine hq_ 41 (hop_addi rfl rfl rfl (by first | exact Nat.le_of_ble_eq_true rfl | omega | (dsimp only;omega) | (simp <;> omega)) (by first | exact Nat.le_of_ble_eq_true rfl | omega | (dsimp only;omega) | (simp <;> omega))) rfl rfl pre0 rfl rfl ?_
  | refine hq_ 41 (hop_add rfl rfl) rfl rfl pre0 rfl rfl ?_
  refine sm ?_
  first
  | refine hq_ 43 (hop_fa fd_88_0 rfl) rfl rfl pre0 rfl rfl ?_
  | refine hq_ 43 (hop_fa_fp fd_88_0 rfl (by first | exact Nat.le_of_ble_eq_true rfl | omega | (dsimp only;omega) | (simp <;> omega))) rfl rfl pre0 rfl rfl ?_
  first
  | refine hq_ 44 (HOp.val (v':=intV r.at_) (hol_load ty_3 rfl (by first | exact Nat.le_of_ble_eq_true rfl | omega | (dsimp only;omega) | (simp <;> omega)) (by first | exact Nat.le_of_ble_eq_true rfl | omega | (dsimp only;omega) | (simp <;> omega)) (fun h=>(by first | rfl | cases h))) (rfl)) rfl rfl (pre1 rfl) rfl rfl ?_
  | refine hq_ 44 (HOp.val (v':=intV r.at_) (hop_load_fp ty_3 rfl (by first | exact Nat.le_of_ble_eq_true rfl | omega | (dsimp only;omega) | (simp <;> omega)) (fun h=>(by first | rfl | cases h))) (rfl)) rfl rfl pre0 rfl rfl ?_
  refine s0 (hop_gtr rfl rfl) ?_
  refine sm ?_
  first
  | refine stg 46 (fun hb=>hop_move rfl) rfl rfl rfl rfl rfl ?_
  | refine sth 46 (fun hb=>hop_move rfl) rfl rfl rfl rfl rfl ?_
  first
  | refine stg 46 (fun hb=>hop_move rfl) rfl rfl rfl rfl rfl ?_
  | refine sth 46 (fun hb=>hop_move rfl) rfl rfl rfl rfl rfl ?_
  first
  | refine stg 46 (fun hb=>hop_lss rfl rfl) rfl rfl rfl rfl rfl ?_
  | refine sth 46 (fun hb=>hop_lss rfl rfl) rfl rfl rfl rfl rfl ?_
  first
  | refine hq_p 50 (hstep_and _ _ rfl rfl rfl) rfl rfl rfl ?_
  | refine hq_p 50 (hstep_or _ _ rfl rfl rfl) rfl rfl rfl ?_
  | refine hq_p 50 (hstep_ite _ _ _ rfl rfl rfl) rfl rfl rfl ?_
  | refine hq_p 50 (hstep_pick _ _ _ _ rfl rfl rfl (fun _=>.refl _) (fun _=>.refl _)) rfl rfl rfl ?_
  refine s0 (hop_build (hs:=[(0,1,_),(2,1,_)]) st_100 rfl rfl ⟨rfl,rfl,rfl,rfl,rfl,⟨rfl,rfl,rfl,rfl,rfl,trivial⟩⟩) ?_
  refine hm_1 13 (hop_alloc (id:=13) (sz:=5) zc_100 rfl rfl omx omx) rfl rfl pre0 rfl rfl (c':=c+1) rfl ?_
  first
  | refine hm_s1 (hol_storeW ty_100 rfl rfl rfl rfl) rfl rfl (pre1 rfl) (c':=c+2) rfl ?_
  | refine hm_s1 (hol_store ty_100 rfl rfl rfl rfl (by first | exact Nat.le_of_ble_eq_true rfl | omega | (dsimp only;omega) | (simp <;> omega)) (by first | exact Nat.le_of_ble_eq_true rfl | omega | (dsimp only;omega) | (simp <;> omega)) (by first | exact Nat.le_of_ble_eq_true rfl | omega | (dsimp only;omega) | (simp <;> omega))) rfl rfl (pre1 rfl) (c':=c+2) rfl ?_
  refine nu ?_
  refine h6 _ ?_
  refine hw_joinc (α:=Nat) (fun x c=>⟨80,[(1,.v (intV i0)),(3,.v (intV pos)),(4,.v (intV side)),(5,.v (.pt 5 0 0 0)),(10,.v (.pt 10 1 0 0)),(11,.v (intV (r.at_+r.old))),(13,.v (.pt 13 c0 0 0))],[(5,⟨0,1,3,88,0,fun _=>rgF r⟩),(10,plcO 1 ⟨0,false,false,0,0⟩),(13,plcO c0 ⟨r.at_+sh0+(if rgtV r pos side=true then r.new else 0),false,insV r pos,0,0⟩)],c⟩) (fun x=>x=0) (fun NhJ7 hJ7=>?_) (fun u c hx=>?_)
  ·skip
   refine srg fun N h8=>sm<|snl h8 ?_
   refine wc (fun hc1=>?_) (fun hc1=>?_)
   ·have hr1:=hc1;(try simp only [hcs,Int.reduceToNat] at hc1)
    refine hw_region ?_
    first
    | refine hq_ 53 (hop_fa fd_100_0 rfl) rfl rfl pre0 rfl rfl ?_
    | refine hq_ 53 (hop_fa_fp fd_100_0 rfl (by first | exact Nat.le_of_ble_eq_true rfl | omega | (dsimp only;omega) | (simp <;> omega))) rfl rfl pre0 rfl rfl ?_
    first
    | refine hq_ 54 (hol_load ty_3 rfl (by first | exact Nat.le_of_ble_eq_true rfl | omega | (dsimp only;omega) | (simp <;> omega)) (by first | exact Nat.le_of_ble_eq_true rfl | omega | (dsimp only;omega) | (simp <;> omega)) (fun h=>(by first | rfl | cases h))) rfl rfl (pre1 rfl) rfl rfl ?_
    | refine hq_ 54 (hop_load_fp ty_3 rfl (by first | exact Nat.le_of_ble_eq_true rfl | omega | (dsimp only;omega) | (simp <;> omega)) (fun h=>(by first | rfl | cases h))) rfl rfl pre0 rfl rfl ?_
    first
    | refine hq_ 55 (hop_fa fd_88_2 rfl) rfl rfl pre0 rfl rfl ?_
    | refine hq_ 55 (hop_fa_fp fd_88_2 rfl (by first | exact Nat.le_of_ble_eq_true rfl | omega | (dsimp only;omega) | (simp <;> omega))) rfl rfl pre0 rfl rfl ?_
    first
    | refine hq_ 56 (HOp.val (v':=intV r.new) (hol_load ty_3 rfl (by first | exact Nat.le_of_ble_eq_true rfl | omega | (dsimp only;omega) | (simp <;> omega)) (by first | exact Nat.le_of_ble_eq_true rfl | omega | (dsimp only;omega) | (simp <;> omega)) (fun h=>(by first | rfl | cases h))) (rfl)) rfl rfl (pre1 rfl) rfl rfl ?_
    | refine hq_ 56 (HOp.val (v':=intV r.new) (hop_load_fp ty_3 rfl (by first | exact Nat.le_of_ble_eq_true rfl | omega | (dsimp only;omega) | (simp <;> omega)) (fun h=>(by first | rfl | cases h))) (rfl)) rfl rfl pre0 rfl rfl ?_
    first
    | refine hq_ 57 (hop_addi rfl rfl rfl (by first | exact Nat.le_of_ble_eq_true rfl | omega | (dsimp only;omega) | (simp <;> omega)) (by first | exact Nat.le_of_ble_eq_true rfl | omega | (dsimp only;omega) | (simp <;> omega))) rfl rfl pre0 rfl rfl ?_
    | refine hq_ 57 (hop_add rfl rfl) rfl rfl pre0 rfl rfl ?_
    first
    | refine hq_ 58 (hop_fa fd_100_0 rfl) rfl rfl pre0 rfl rfl ?_
    | refine hq_ 58 (hop_fa_fp fd_100_0 rfl (by first | exact Nat.le_of_ble_eq_true rfl | omega | (dsimp only;omega) | (simp <;> omega))) rfl rfl pre0 rfl rfl ?_
    first
    | refine hm_s1 (hol_storeW ty_3 rfl rfl rfl rfl) rfl rfl (pre1 rfl) (c':=c+3) rfl ?_
    | refine hm_s1 (hol_store ty_3 rfl rfl rfl rfl (by first | exact Nat.le_of_ble_eq_true rfl | omega | (dsimp only;omega) | (simp <;> omega)) (by first | exact Nat.le_of_ble_eq_true rfl | omega | (dsimp only;omega) | (simp <;> omega)) (by first | exact Nat.le_of_ble_eq_true rfl | omega | (dsimp only;omega) | (simp <;> omega))) rfl rfl (pre1 rfl) (c':=c+3) rfl ?_
    refine hseq_nil ?_
    exact hJ7 (0) _ _ (by (try dsimp only);skip) (hsub_of rfl (Nat.le_refl _) tsa (hsr rfl (hsr rfl (HpSub.cons rfl (osub_plc (by exact j5i (show intV (r.at_+sh0+r.new)=intV (r.at_+sh0+(if rgtV r pos side=true then r.new else 0)) by rw [if_pos hc1]) rfl rfl rfl rfl)) HpSub.nil))))
   have hr1:=hc1;(try simp only [hcs,Int.reduceToNat] at hc1)
   refine hw_skip ?_
   exact hJ7 (0) _ _ (by (try dsimp only);skip) (hsub_of rfl (Nat.le_refl _) tsa (hsr rfl (hsr rfl (HpSub.cons rfl (osub_plc (by exact j5i (show intV (r.at_+sh0)=intV (r.at_+sh0+(if rgtV r pos side=true then r.new else 0)) by rw [if_neg (by rw [hc1];decide),Int.add_zero]) rfl rfl rfl rfl)) HpSub.nil))))
  ·skip
   (try dsimp only at hx ⊢)
   refine hw_joinc (α:=Nat) (fun x c=>⟨80,[(1,.v (intV i0)),(3,.v (intV pos)),(5,.v (.pt 5 0 0 0)),(10,.v (.pt 10 1 0 0)),(13,.v (.pt 13 c0 0 0))],[(5,⟨0,1,3,88,0,fun _=>rgF r⟩),(10,plcO 1 ⟨0,false,false,0,0⟩),(13,plcO c0 ⟨r.at_+sh0+(if rgtV r pos side=true then r.new else 0),gonV r pos side,insV r pos,0,0⟩)],c⟩) (fun x=>x=0) (fun NhJ9 hJ9=>?_) (fun u c hx=>?_)
   ·skip
    refine srg fun N h10=>sm ?_
    refine s0 hli ?_
    refine snl h10 ?_
    refine wc (fun hc2=>?_) (fun hc2=>?_)
    ·have hr2:=hc2;(try simp only [hcs,Int.reduceToNat] at hc2)
     refine hw_region<|sm ?_
     first
     | refine hq_ 62 (hop_fa fd_88_0 rfl) rfl rfl pre0 rfl rfl ?_
     | refine hq_ 62 (hop_fa_fp fd_88_0 rfl (by first | exact Nat.le_of_ble_eq_true rfl | omega | (dsimp only;omega) | (simp <;> omega))) rfl rfl pre0 rfl rfl ?_
     first
     | refine hq_ 63 (HOp.val (v':=intV r.at_) (hol_load ty_3 rfl (by first | exact Nat.le_of_ble_eq_true rfl | omega | (dsimp only;omega) | (simp <;> omega)) (by first | exact Nat.le_of_ble_eq_true rfl | omega | (dsimp only;omega) | (simp <;> omega)) (fun h=>(by first | rfl | cases h))) (rfl)) rfl rfl (pre1 rfl) rfl rfl ?_
     | refine hq_ 63 (HOp.val (v':=intV r.at_) (hop_load_fp ty_3 rfl (by first | exact Nat.le_of_ble_eq_true rfl | omega | (dsimp only;omega) | (simp <;> omega)) (fun h=>(by first | rfl | cases h))) (rfl)) rfl rfl pre0 rfl rfl ?_
     refine s0 (hop_gtr rfl rfl) ?_
     first
     | refine hq_ 65 (hop_fa fd_100_1 rfl) rfl rfl pre0 rfl rfl ?_
     | refine hq_ 65 (hop_fa_fp fd_100_1 rfl (by first | exact Nat.le_of_ble_eq_true rfl | omega | (dsimp only;omega) | (simp <;> omega))) rfl rfl pre0 rfl rfl ?_
     first
     | refine hm_s1 (hol_storeW ty_4 rfl rfl rfl rfl) rfl rfl (pre1 rfl) (c':=c+1) rfl ?_
     | refine hm_s1 (hol_store ty_4 rfl rfl rfl rfl (by first | exact Nat.le_of_ble_eq_true rfl | omega | (dsimp only;omega) | (simp <;> omega)) (by first | exact Nat.le_of_ble_eq_true rfl | omega | (dsimp only;omega) | (simp <;> omega)) (by first | exact Nat.le_of_ble_eq_true rfl | omega | (dsimp only;omega) | (simp <;> omega))) rfl rfl (pre1 rfl) (c':=c+1) rfl ?_
     refine hseq_nil ?_
     exact hJ9 (0) _ _ (by (try dsimp only);skip) (hsub_of rfl (Nat.le_refl _) tsa (hsr rfl (hsr rfl (HpSub.cons rfl (osub_plc (by exact j5i rfl (show boolV (decide (r.at_ < pos))=boolV (gonV r pos side) by unfold gonV;rw [if_pos hc2]) rfl rfl rfl)) HpSub.nil))))
    have hr2:=hc2;(try simp only [hcs,Int.reduceToNat] at hc2)
    refine hw_region<|sm<|sm ?_
    refine s0 hli ?_
    first
    | refine hq_ 69 (hop_fa fd_100_1 rfl) rfl rfl pre0 rfl rfl ?_
    | refine hq_ 69 (hop_fa_fp fd_100_1 rfl (by first | exact Nat.le_of_ble_eq_true rfl | omega | (dsimp only;omega) | (simp <;> omega))) rfl rfl pre0 rfl rfl ?_
    first
    | refine hm_s1 (hol_storeW ty_4 rfl rfl rfl rfl) rfl rfl (pre1 rfl) (c':=c+1) rfl ?_
    | refine hm_s1 (hol_store ty_4 rfl rfl rfl rfl (by first | exact Nat.le_of_ble_eq_true rfl | omega | (dsimp only;omega) | (simp <;> omega)) (by first | exact Nat.le_of_ble_eq_true rfl | omega | (dsimp only;omega) | (simp <;> omega)) (by first | exact Nat.le_of_ble_eq_true rfl | omega | (dsimp only;omega) | (simp <;> omega))) rfl rfl (pre1 rfl) (c':=c+1) rfl ?_
    refine hseq_nil ?_
    exact hJ9 (0) _ _ (by (try dsimp only);skip) (hsub_of rfl (Nat.le_refl _) tsa (hsr rfl (hsr rfl (HpSub.cons rfl (osub_plc (by exact j5i rfl (show boolV (decide (pos < r.at_+r.old))=boolV (gonV r pos side) by unfold gonV;rw [if_neg hc2]) rfl rfl rfl)) HpSub.nil))))
   ·skip
    (try dsimp only at hx ⊢)
    refine hw_seq fun Nh11 h11=>srg fun N h12=>?_
    first
    | refine hq_ 70 (hop_fa fd_100_1 rfl) rfl rfl pre0 rfl rfl ?_
    | refine hq_ 70 (hop_fa_fp fd_100_1 rfl (by first | exact Nat.le_of_ble_eq_true rfl | omega | (dsimp only;omega) | (simp <;> omega))) rfl rfl pre0 rfl rfl ?_
    first
    | refine hq_ 71 (HOp.val (v':=boolV (gonV r pos side)) (hol_load ty_4 rfl (by first | exact Nat.le_of_ble_eq_true rfl | omega | (dsimp only;omega) | (simp <;> omega)) (by first | exact Nat.le_of_ble_eq_true rfl | omega | (dsimp only;omega) | (simp <;> omega)) (fun h=>(by first | rfl | cases h))) (rfl)) rfl rfl (pre1 rfl) rfl rfl ?_
    | refine hq_ 71 (HOp.val (v':=boolV (gonV r pos side)) (hop_load_fp ty_4 rfl (by first | exact Nat.le_of_ble_eq_true rfl | omega | (dsimp only;omega) | (simp <;> omega)) (fun h=>(by first | rfl | cases h))) (rfl)) rfl rfl pre0 rfl rfl ?_
    refine snl h12 ?_
    refine wc (fun hc3=>?_) (fun hc3=>?_)
    ·have hr3:=hc3;(try simp only [hcs,Int.reduceToNat] at hc3)
     refine hd_start ?_
     refine dm 1 ?_
     refine dm 2 ?_
     first
     | refine hd_q 74 (hop_fa fd_88_0 rfl) rfl rfl pre0 rfl rfl (k':=3) rfl ?_
     | refine hd_q 74 (hop_fa_fp fd_88_0 rfl (by first | exact Nat.le_of_ble_eq_true rfl | omega | (dsimp only;omega) | (simp <;> omega))) rfl rfl pre0 rfl rfl (k':=3) rfl ?_
     first
     | refine hd_q 75 (HOp.val (v':=intV r.at_) (hol_load ty_3 rfl (by first | exact Nat.le_of_ble_eq_true rfl | omega | (dsimp only;omega) | (simp <;> omega)) (by first | exact Nat.le_of_ble_eq_true rfl | omega | (dsimp only;omega) | (simp <;> omega)) (fun h=>(by first | rfl | cases h))) (rfl)) rfl rfl (pre1 rfl) rfl rfl (k':=4) rfl ?_
     | refine hd_q 75 (HOp.val (v':=intV r.at_) (hop_load_fp ty_3 rfl (by first | exact Nat.le_of_ble_eq_true rfl | omega | (dsimp only;omega) | (simp <;> omega)) (fun h=>(by first | rfl | cases h))) (rfl)) rfl rfl pre0 rfl rfl (k':=4) rfl ?_
     first
     | refine hd_q 76 (hop_subi rfl rfl rfl (by first | exact Nat.le_of_ble_eq_true rfl | omega | (dsimp only;omega) | (simp <;> omega)) (by first | exact Nat.le_of_ble_eq_true rfl | omega | (dsimp only;omega) | (simp <;> omega))) rfl rfl pre0 rfl rfl (k':=5) rfl ?_
     | refine hd_q 76 (hop_sub rfl rfl) rfl rfl pre0 rfl rfl (k':=5) rfl ?_
     first
     | refine hd_q 77 (hop_fa fd_100_3 rfl) rfl rfl pre0 rfl rfl (k':=6) rfl ?_
     | refine hd_q 77 (hop_fa_fp fd_100_3 rfl (by first | exact Nat.le_of_ble_eq_true rfl | omega | (dsimp only;omega) | (simp <;> omega))) rfl rfl pre0 rfl rfl (k':=6) rfl ?_
     first
     | refine hd_s1 (hol_storeW ty_3 rfl rfl rfl rfl) rfl rfl (pre1 rfl) (k':=7) rfl ?_
     | refine hd_s1 (hol_store ty_3 rfl rfl rfl rfl (by first | exact Nat.le_of_ble_eq_true rfl | omega | (dsimp only;omega) | (simp <;> omega)) (by first | exact Nat.le_of_ble_eq_true rfl | omega | (dsimp only;omega) | (simp <;> omega)) (by first | exact Nat.le_of_ble_eq_true rfl | omega | (dsimp only;omega) | (simp <;> omega))) rfl rfl (pre1 rfl) (k':=7) rfl ?_
     first
     | refine hd_q 78 (hop_fa fd_100_4 rfl) rfl rfl pre0 rfl rfl (k':=8) rfl ?_
     | refine hd_q 78 (hop_fa_fp fd_100_4 rfl (by first | exact Nat.le_of_ble_eq_true rfl | omega | (dsimp only;omega) | (simp <;> omega))) rfl rfl pre0 rfl rfl (k':=8) rfl ?_
     first
     | refine hd_s1 (hol_storeW ty_3 rfl rfl rfl rfl) rfl rfl (pre1 rfl) (k':=9) rfl ?_
     | refine hd_s1 (hol_store ty_3 rfl rfl rfl rfl (by first | exact Nat.le_of_ble_eq_true rfl | omega | (dsimp only;omega) | (simp <;> omega)) (by first | exact Nat.le_of_ble_eq_true rfl | omega | (dsimp only;omega) | (simp <;> omega)) (by first | exact Nat.le_of_ble_eq_true rfl | omega | (dsimp only;omega) | (simp <;> omega))) rfl rfl (pre1 rfl) (k':=9) rfl ?_
     refine hd_nil kr kr (c':=c+9) rfl ?_
     refine h11 _<|srg fun N h13=>?_
     first
     | refine hq_ 79 (hol_load ty_100 rfl (by first | exact Nat.le_of_ble_eq_true rfl | omega | (dsimp only;omega) | (simp <;> omega)) (by first | exact Nat.le_of_ble_eq_true rfl | omega | (dsimp only;omega) | (simp <;> omega)) (fun h=>(by first | rfl | cases h))) rfl rfl (pre1 rfl) rfl rfl ?_
     | refine hq_ 79 (hop_load_fp ty_100 rfl (by first | exact Nat.le_of_ble_eq_true rfl | omega | (dsimp only;omega) | (simp <;> omega)) (fun h=>(by first | rfl | cases h))) rfl rfl pre0 rfl rfl ?_
     first
     | refine hm_s1 (hol_storeW ty_100 rfl rfl rfl rfl) rfl rfl (pre1 rfl) (c':=c+10) rfl ?_
     | refine hm_s1 (hol_store ty_100 rfl rfl rfl rfl (by first | exact Nat.le_of_ble_eq_true rfl | omega | (dsimp only;omega) | (simp <;> omega)) (by first | exact Nat.le_of_ble_eq_true rfl | omega | (dsimp only;omega) | (simp <;> omega)) (by first | exact Nat.le_of_ble_eq_true rfl | omega | (dsimp only;omega) | (simp <;> omega))) rfl rfl (pre1 rfl) (c':=c+10) rfl ?_
     refine snl h13<|hw_ret ?_
     refine hq_ret1 rfl (rvl_cell rfl rfl ty_100 rqc rfl rfl) [] rfl pre0 ?_
     rw [withinV_eq];exact fz_plc (by exact j5i rfl rfl rfl (show intV i0=intV (if gonV r pos side=true then i0 else 0) by rw [if_pos hc3]) (show intV (pos - r.at_)=intV (if gonV r pos side=true then pos - r.at_ else 0) by rw [if_pos hc3]))
    have hr3:=hc3;(try simp only [hcs,Int.reduceToNat] at hc3)
    refine hw_skip<|h11 _<|srg fun N h14=>?_
    first
    | refine hq_ 79 (hol_load ty_100 rfl (by first | exact Nat.le_of_ble_eq_true rfl | omega | (dsimp only;omega) | (simp <;> omega)) (by first | exact Nat.le_of_ble_eq_true rfl | omega | (dsimp only;omega) | (simp <;> omega)) (fun h=>(by first | rfl | cases h))) rfl rfl (pre1 rfl) rfl rfl ?_
    | refine hq_ 79 (hop_load_fp ty_100 rfl (by first | exact Nat.le_of_ble_eq_true rfl | omega | (dsimp only;omega) | (simp <;> omega)) (fun h=>(by first | rfl | cases h))) rfl rfl pre0 rfl rfl ?_
    first
    | refine hm_s1 (hol_storeW ty_100 rfl rfl rfl rfl) rfl rfl (pre1 rfl) (c':=c+1) rfl ?_
    | refine hm_s1 (hol_store ty_100 rfl rfl rfl rfl (by first | exact Nat.le_of_ble_eq_true rfl | omega | (dsimp only;omega) | (simp <;> omega)) (by first | exact Nat.le_of_ble_eq_true rfl | omega | (dsimp only;omega) | (simp <;> omega)) (by first | exact Nat.le_of_ble_eq_true rfl | omega | (dsimp only;omega) | (simp <;> omega))) rfl rfl (pre1 rfl) (c':=c+1) rfl ?_
    refine snl h14<|hw_ret ?_
    refine hq_ret1 rfl (rvl_cell rfl rfl ty_100 rqc rfl rfl) [] rfl pre0 ?_
    rw [withinV_eq];exact fz_plc (by exact j5i rfl rfl rfl (show intV 0=intV (if gonV r pos side=true then i0 else 0) by rw [if_neg (by rw [hc3];decide)]) (show intV 0=intV (if gonV r pos side=true then pos - r.at_ else 0) by rw [if_neg (by rw [hc3];decide)]))
def tellP (m:List Rg) (pos side:Int):Plc×Int:=if rightM m=true then (if pos < 0∨1099511627776 < pos then (⟨0,false,false,0,0⟩,3) else (tellV m pos side,0)) else (⟨0,false,false,0,0⟩,1)
@[reducible] def boxIO (g:Nat) (x:Int):HObj:=⟨g,1,1,3,0,fun _ _=>intV x⟩
theorem tell_h (m:List Rg) (pos side:Int):HPure Try.prog 52 [rgsV m,intV pos,intV side] (t2 (plcH (tellP m pos side).1) (intV (tellP m pos side).2)):=by
 refine hpure_ofM Try.func52 rfl kr _ _ _ rfl 56 rfl rfl (fun w F=>?_)
 refine srg fun N h1=>?_
 refine hm_1 3 (hop_box (id:=3) (sz:=1) rfl rfl rfl omx omx) rfl rfl pre0 rfl rfl (c':=1) rfl ?_
 refine hm_1 4 (hop_box (id:=4) (sz:=1) rfl rfl rfl omx omx) rfl rfl pre0 rfl rfl (c':=2) rfl ?_
 refine hm_1 5 (hop_box (id:=5) (sz:=1) rfl rfl rfl omx omx) rfl rfl pre0 rfl rfl (c':=3) rfl ?_
 refine hm_1 6 (hop_alloc (id:=6) (sz:=5) zc_100 rfl rfl omx omx) rfl rfl pre0 rfl rfl (c':=4) rfl ?_
 refine hm_1 7 (hop_alloc (id:=7) (sz:=1) zc_52 rfl rfl omx omx) rfl rfl pre0 rfl rfl (c':=5) rfl ?_
 refine snl h1<|hw_seq fun Nh2 h2=>srg fun N h3=>?_
 first
 | refine hq_ 11 (hol_load ty_48 rfl (by first | exact Nat.le_of_ble_eq_true rfl | omega | (dsimp only;omega) | (simp <;> omega)) (by first | exact Nat.le_of_ble_eq_true rfl | omega | (dsimp only;omega) | (simp <;> omega)) (fun h=>(by first | rfl | cases h))) rfl rfl (pre1 rfl) rfl rfl ?_
 | refine hq_ 11 (hop_load_fp ty_48 rfl (by first | exact Nat.le_of_ble_eq_true rfl | omega | (dsimp only;omega) | (simp <;> omega)) (fun h=>(by first | rfl | cases h))) rfl rfl pre0 rfl rfl ?_
 refine s0 (hop_call0 (xs:=[_]) (right_h m) ⟨rfl,trivial⟩ ⟨fe,trivial⟩) ?_
 refine s0 (hop_not rfl) ?_
 refine snl h3 ?_
 refine wc (fun hc0=>?_) (fun hc0=>?_)
 ·have hr0:=hc0;(try simp only [hcs,Int.reduceToNat] at hc0)
  have hm:¬ rightM m=true:=(by simpa using hr0)
  refine srg fun N h4=>?_
  refine s0 (hop_build (hs:=[]) st_100 rfl rfl trivial) ?_
  first
  | refine hm_s1 (hol_storeW ty_100 rfl rfl rfl rfl) rfl rfl (pre1 rfl) (c':=6) rfl ?_
  | refine hm_s1 (hol_store ty_100 rfl rfl rfl rfl (by first | exact Nat.le_of_ble_eq_true rfl | omega | (dsimp only;omega) | (simp <;> omega)) (by first | exact Nat.le_of_ble_eq_true rfl | omega | (dsimp only;omega) | (simp <;> omega)) (by first | exact Nat.le_of_ble_eq_true rfl | omega | (dsimp only;omega) | (simp <;> omega))) rfl rfl (pre1 rfl) (c':=6) rfl ?_
  first
  | refine hm_s1 (hol_storeW ty_52 rfl rfl rfl rfl) rfl rfl (pre1 rfl) (c':=7) rfl ?_
  | refine hm_s1 (hol_store ty_52 rfl rfl rfl rfl (by first | exact Nat.le_of_ble_eq_true rfl | omega | (dsimp only;omega) | (simp <;> omega)) (by first | exact Nat.le_of_ble_eq_true rfl | omega | (dsimp only;omega) | (simp <;> omega)) (by first | exact Nat.le_of_ble_eq_true rfl | omega | (dsimp only;omega) | (simp <;> omega))) rfl rfl (pre1 rfl) (c':=7) rfl ?_
  refine snl h4<|hw_ret<|hq_then_ret ?_
  refine hq_retP ?_
  refine hq_ret2 rfl (rvl_cell rfl rfl ty_100 rqc rfl rfl) (rvl_cell rfl rfl ty_52 rqc rfl rfl) [] rfl pre0 ?_
  rw [show tellP m pos side=(⟨0,false,false,0,0⟩,1) from if_neg hm];exact fz_t2 (fz_plc (by exact j5i rfl rfl rfl rfl rfl)) (Fz.eq rfl)
 have hr0:=hc0;(try simp only [hcs,Int.reduceToNat] at hc0)
 have hm:rightM m=true:=(by simpa using hr0);obtain ⟨hml,hmr⟩:=rightM_iff.1 hm;have hrg:=fun i hi=>rg_at hmr (i:=i) hi;have hsb:=fun i hi=>shift_bd hmr i hi
 refine hw_skip<|h2 _<|hw_seq fun Nh5 h5=>srg fun N h6=>?_
 first
 | refine hq_ 15 (hol_load ty_3 rfl (by first | exact Nat.le_of_ble_eq_true rfl | omega | (dsimp only;omega) | (simp <;> omega)) (by first | exact Nat.le_of_ble_eq_true rfl | omega | (dsimp only;omega) | (simp <;> omega)) (fun h=>(by first | rfl | cases h))) rfl rfl (pre1 rfl) rfl rfl ?_
 | refine hq_ 15 (hop_load_fp ty_3 rfl (by first | exact Nat.le_of_ble_eq_true rfl | omega | (dsimp only;omega) | (simp <;> omega)) (fun h=>(by first | rfl | cases h))) rfl rfl pre0 rfl rfl ?_
 refine s0 hli ?_
 refine sm ?_
 first
 | refine hq_g 18 2 17 false _ (fun hb=>hol_load ty_3 rfl (by first | exact Nat.le_of_ble_eq_true rfl | (simp at hb;first | omega | (dsimp only;omega) | (simp <;> omega)) | omega | (dsimp only;omega)) (by first | exact Nat.le_of_ble_eq_true rfl | (simp at hb;first | omega | (dsimp only;omega) | (simp <;> omega)) | omega | (dsimp only;omega)) (fun h=>(by first | rfl | cases h))) rfl rfl rfl rfl (pre1 rfl) rfl rfl rfl ?_
 | refine hq_g2 18 2 17 _ _ false _ (fun hb=>hol_load ty_3 rfl (by first | exact Nat.le_of_ble_eq_true rfl | (simp at hb;first | omega | (dsimp only;omega) | (simp <;> omega)) | omega | (dsimp only;omega)) (by first | exact Nat.le_of_ble_eq_true rfl | (simp at hb;first | omega | (dsimp only;omega) | (simp <;> omega)) | omega | (dsimp only;omega)) (fun h=>(by first | rfl | cases h))) rfl rfl rfl rfl (pre1 rfl) rfl rfl rfl ?_
 | refine stg 17 (fun hb=>hop_load_fp ty_3 rfl (by first | exact Nat.le_of_ble_eq_true rfl | (simp at hb;first | omega | (dsimp only;omega) | (simp <;> omega)) | omega | (dsimp only;omega)) (fun h=>(by first | rfl | cases h))) rfl rfl rfl rfl rfl ?_
 | refine sth 17 (fun hb=>hop_load_fp ty_3 rfl (by first | exact Nat.le_of_ble_eq_true rfl | (simp at hb;first | omega | (dsimp only;omega) | (simp <;> omega)) | omega | (dsimp only;omega)) (fun h=>(by first | rfl | cases h))) rfl rfl rfl rfl rfl ?_
 first
 | refine stg 17 (fun hb=>hop_gtr rfl rfl) rfl rfl rfl rfl rfl ?_
 | refine sth 17 (fun hb=>hop_gtr rfl rfl) rfl rfl rfl rfl rfl ?_
 first
 | refine hq_p 20 (hstep_and _ _ rfl rfl rfl) rfl rfl rfl ?_
 | refine hq_p 20 (hstep_or _ _ rfl rfl rfl) rfl rfl rfl ?_
 | refine hq_p 20 (hstep_ite _ _ _ rfl rfl rfl) rfl rfl rfl ?_
 | refine hq_p 20 (hstep_pick _ _ _ _ rfl rfl rfl (fun _=>.refl _) (fun _=>.refl _)) rfl rfl rfl ?_
 refine nu ?_
 refine h6 _ ?_
 refine wc (fun hc1=>?_) (fun hc1=>?_)
 ·have hr1:=hc1;(try simp only [hcs,Int.reduceToNat] at hc1)
  have hp:pos < 0∨1099511627776 < pos:=hc1
  refine srg fun N h7=>?_
  refine s0 (hop_build (hs:=[]) st_100 rfl rfl trivial) ?_
  first
  | refine hm_s1 (hol_storeW ty_100 rfl rfl rfl rfl) rfl rfl (pre1 rfl) (c':=6) rfl ?_
  | refine hm_s1 (hol_store ty_100 rfl rfl rfl rfl (by first | exact Nat.le_of_ble_eq_true rfl | omega | (dsimp only;omega) | (simp <;> omega)) (by first | exact Nat.le_of_ble_eq_true rfl | omega | (dsimp only;omega) | (simp <;> omega)) (by first | exact Nat.le_of_ble_eq_true rfl | omega | (dsimp only;omega) | (simp <;> omega))) rfl rfl (pre1 rfl) (c':=6) rfl ?_
  first
  | refine hm_s1 (hol_storeW ty_52 rfl rfl rfl rfl) rfl rfl (pre1 rfl) (c':=7) rfl ?_
  | refine hm_s1 (hol_store ty_52 rfl rfl rfl rfl (by first | exact Nat.le_of_ble_eq_true rfl | omega | (dsimp only;omega) | (simp <;> omega)) (by first | exact Nat.le_of_ble_eq_true rfl | omega | (dsimp only;omega) | (simp <;> omega)) (by first | exact Nat.le_of_ble_eq_true rfl | omega | (dsimp only;omega) | (simp <;> omega))) rfl rfl (pre1 rfl) (c':=7) rfl ?_
  refine snl h7<|hw_ret<|hq_then_ret ?_
  refine hq_retP ?_
  refine hq_ret2 rfl (rvl_cell rfl rfl ty_100 rqc rfl rfl) (rvl_cell rfl rfl ty_52 rqc rfl rfl) [] rfl pre0 ?_
  rw [show tellP m pos side=(⟨0,false,false,0,0⟩,3) by unfold tellP;rw [if_pos hm,if_pos hp]];exact fz_t2 (fz_plc (by exact j5i rfl rfl rfl rfl rfl)) (Fz.eq rfl)
 have hr1:=hc1;(try simp only [hcs,Int.reduceToNat] at hc1)
 have hp:¬ (pos < 0∨1099511627776 < pos):=(by intro h;have h9:=hr1;rcases h with h | h;(rw [decide_eq_true h] at h9;simp at h9);(rw [decide_eq_true h,Bool.or_true] at h9;cases h9));have hpos:0≤pos∧pos≤1099511627776:=om;have htp:tellP m pos side=(tellV m pos side,0):=(by unfold tellP;rw [if_pos hm,if_neg hp])
 refine hw_skip<|h5 _<|hw_seq fun Nh8 h8=>srg fun N h9=>?_
 first
 | refine hq_ 22 (hol_load ty_48 rfl (by first | exact Nat.le_of_ble_eq_true rfl | omega | (dsimp only;omega) | (simp <;> omega)) (by first | exact Nat.le_of_ble_eq_true rfl | omega | (dsimp only;omega) | (simp <;> omega)) (fun h=>(by first | rfl | cases h))) rfl rfl (pre1 rfl) rfl rfl ?_
 | refine hq_ 22 (hop_load_fp ty_48 rfl (by first | exact Nat.le_of_ble_eq_true rfl | omega | (dsimp only;omega) | (simp <;> omega)) (fun h=>(by first | rfl | cases h))) rfl rfl pre0 rfl rfl ?_
 refine s0 (hop_call0 (xs:=[_]) (ranges_h m) ⟨rfl,trivial⟩ ⟨fe,trivial⟩) ?_
 refine snl h9<|hw_block ?_
 refine hw_range (α:=Nat) ⟨rfl,rfl,rfl⟩ (ranges_it m hm) rfl (cs:=[_]) rfl (fun i hi=>by first | rfl | (cases i <;> first | rfl | (simp at hi))) ⟨(Fz.eq rfl),trivial⟩ rfl (fun _=>rfl) rfl (fun x=>[(3,⟨0,1,1,48,0,fun _ _=>rgsV m⟩),(4,boxIO 1 pos),(5,boxIO 2 side),(6,plcO 3 ⟨0,false,false,0,0⟩),(7,⟨4,1,1,52,0,fun _ _=>intV 0⟩)]) (fun x=>x) (fun x=>x≤m.length∧∀ q,q < x→(m.getD q default).at_+(m.getD q default).old < pos) (0) (by exact ⟨Nat.zero_le _,fun q h=>absurd h (Nat.not_lt_zero _)⟩) (by first | rfl | omega) (hsr rfl (hsr rfl (hsr rfl (HpSub.cons rfl (osub_plc (by exact j5i rfl rfl rfl rfl rfl)) (HpSub.cons rfl (OSub.of fun i j hi hj=>by obtain rfl:j=0:=om;exact .refl _) HpSub.nil))))) rfl (fun i c hx hi C1 lr hC1 NhR10 hR10=>?_) (fun i c hx hi=>?_)
 ·skip
  (try dsimp only at hx hi hR10 ⊢)
  obtain ⟨hil,hah⟩:=hx
  have h1:=hrg i hi;have h2:=hsb i om
  refine srg fun N h11=>sa<|snl h11<|hw_region<|sa<|hseq_nil ?_
  refine hR10 _ (fun C2 hC12=>?_)
  refine hw_block<|srg fun N h13=>?_
  first
  | refine hq_ 26 (hol_load ty_48 rfl (by first | exact Nat.le_of_ble_eq_true rfl | omega | (dsimp only;omega) | (simp <;> omega)) (by first | exact Nat.le_of_ble_eq_true rfl | omega | (dsimp only;omega) | (simp <;> omega)) (fun h=>(by first | rfl | cases h))) rfl rfl (pre1 rfl) rfl rfl ?_
  | refine hq_ 26 (hop_load_fp ty_48 rfl (by first | exact Nat.le_of_ble_eq_true rfl | omega | (dsimp only;omega) | (simp <;> omega)) (fun h=>(by first | rfl | cases h))) rfl rfl pre0 rfl rfl ?_
  refine sm ?_
  first
  | refine hq_ 28 (hop_ia_sl el_48 rfl rfl (by first | exact Nat.le_of_ble_eq_true rfl | omega | (dsimp only;omega) | (simp <;> omega)) (by first | exact Nat.le_of_ble_eq_true rfl | omega | (dsimp only;omega) | (simp <;> omega)) (by first | exact Nat.le_of_ble_eq_true rfl | omega | (dsimp only;omega) | (simp <;> omega))) rfl rfl pre0 rfl rfl ?_
  | refine hq_ 28 (hol_ia_os el_48 rfl rfl (by first | exact Nat.le_of_ble_eq_true rfl | omega | (dsimp only;omega) | (simp <;> omega)) (by first | exact Nat.le_of_ble_eq_true rfl | omega | (dsimp only;omega) | (simp <;> omega))) rfl rfl (pre1 rfl) rfl rfl ?_
  first
  | refine hq_ 29 (hol_load ty_88 rfl (by first | exact Nat.le_of_ble_eq_true rfl | omega | (dsimp only;omega) | (simp <;> omega)) (by first | exact Nat.le_of_ble_eq_true rfl | omega | (dsimp only;omega) | (simp <;> omega)) (fun h=>(by first | rfl | cases h))) rfl rfl (pre1 rfl) rfl rfl ?_
  | refine hq_ 29 (hop_load_fp ty_88 rfl (by first | exact Nat.le_of_ble_eq_true rfl | omega | (dsimp only;omega) | (simp <;> omega)) (fun h=>(by first | rfl | cases h))) rfl rfl pre0 rfl rfl ?_
  refine hm_1 10 (hop_alloc (id:=10) (sz:=3) zc_88 rfl rfl omx omx) rfl rfl pre0 rfl rfl (c':=c+1) rfl ?_
  first
  | refine hm_s1 (hol_storeW ty_88 rfl rfl rfl rfl) rfl rfl (pre1 rfl) (c':=c+2) rfl ?_
  | refine hm_s1 (hol_store ty_88 rfl rfl rfl rfl (by first | exact Nat.le_of_ble_eq_true rfl | omega | (dsimp only;omega) | (simp <;> omega)) (by first | exact Nat.le_of_ble_eq_true rfl | omega | (dsimp only;omega) | (simp <;> omega)) (by first | exact Nat.le_of_ble_eq_true rfl | omega | (dsimp only;omega) | (simp <;> omega))) rfl rfl (pre1 rfl) (c':=c+2) rfl ?_
  refine snl h13<|hw_seq fun Nh14 h14=>srg fun N h15=>?_
  first
  | refine hq_ 30 (hop_fa fd_88_0 rfl) rfl rfl pre0 rfl rfl ?_
  | refine hq_ 30 (hop_fa_fp fd_88_0 rfl (by first | exact Nat.le_of_ble_eq_true rfl | omega | (dsimp only;omega) | (simp <;> omega))) rfl rfl pre0 rfl rfl ?_
  first
  | refine hq_ 31 (HOp.val (v':=intV (m.getD i default).at_) (hol_load ty_3 rfl (by first | exact Nat.le_of_ble_eq_true rfl | omega | (dsimp only;omega) | (simp <;> omega)) (by first | exact Nat.le_of_ble_eq_true rfl | omega | (dsimp only;omega) | (simp <;> omega)) (fun h=>(by first | rfl | cases h))) (rfl)) rfl rfl (pre1 rfl) rfl rfl ?_
  | refine hq_ 31 (HOp.val (v':=intV (m.getD i default).at_) (hop_load_fp ty_3 rfl (by first | exact Nat.le_of_ble_eq_true rfl | omega | (dsimp only;omega) | (simp <;> omega)) (fun h=>(by first | rfl | cases h))) (rfl)) rfl rfl pre0 rfl rfl ?_
  first
  | refine hq_ 32 (hop_fa fd_88_1 rfl) rfl rfl pre0 rfl rfl ?_
  | refine hq_ 32 (hop_fa_fp fd_88_1 rfl (by first | exact Nat.le_of_ble_eq_true rfl | omega | (dsimp only;omega) | (simp <;> omega))) rfl rfl pre0 rfl rfl ?_
  first
  | refine hq_ 33 (HOp.val (v':=intV (m.getD i default).old) (hol_load ty_3 rfl (by first | exact Nat.le_of_ble_eq_true rfl | omega | (dsimp only;omega) | (simp <;> omega)) (by first | exact Nat.le_of_ble_eq_true rfl | omega | (dsimp only;omega) | (simp <;> omega)) (fun h=>(by first | rfl | cases h))) (rfl)) rfl rfl (pre1 rfl) rfl rfl ?_
  | refine hq_ 33 (HOp.val (v':=intV (m.getD i default).old) (hop_load_fp ty_3 rfl (by first | exact Nat.le_of_ble_eq_true rfl | omega | (dsimp only;omega) | (simp <;> omega)) (fun h=>(by first | rfl | cases h))) (rfl)) rfl rfl pre0 rfl rfl ?_
  first
  | refine hq_ 34 (hop_addi rfl rfl rfl (by first | exact Nat.le_of_ble_eq_true rfl | omega | (dsimp only;omega) | (simp <;> omega)) (by first | exact Nat.le_of_ble_eq_true rfl | omega | (dsimp only;omega) | (simp <;> omega))) rfl rfl pre0 rfl rfl ?_
  | refine hq_ 34 (hop_add rfl rfl) rfl rfl pre0 rfl rfl ?_
  first
  | refine hq_ 35 (hol_load ty_3 rfl (by first | exact Nat.le_of_ble_eq_true rfl | omega | (dsimp only;omega) | (simp <;> omega)) (by first | exact Nat.le_of_ble_eq_true rfl | omega | (dsimp only;omega) | (simp <;> omega)) (fun h=>(by first | rfl | cases h))) rfl rfl (pre1 rfl) rfl rfl ?_
  | refine hq_ 35 (hop_load_fp ty_3 rfl (by first | exact Nat.le_of_ble_eq_true rfl | omega | (dsimp only;omega) | (simp <;> omega)) (fun h=>(by first | rfl | cases h))) rfl rfl pre0 rfl rfl ?_
  refine s0 hli ?_
  refine snl h15 ?_
  refine wc (fun hc2=>?_) (fun hc2=>?_)
  ·have hr2:=hc2;(try simp only [hcs,Int.reduceToNat] at hc2)
   refine hw_exit ?_
   refine hq_then_exit<|hq_block_here ?_
   exact rq_normal ⟨i+1,by (try dsimp only);exact ⟨by omega,fun q hq=>by by_cases e:q=i;(rw [e];exact hc2);(exact hah q om)⟩,by first | rfl | omega,hsa⟩
  have hr2:=hc2;(try simp only [hcs,Int.reduceToNat] at hc2)
  have hfi:firstV m pos=i:=firstV_at hil hah (.inr hc2)
  refine hw_skip<|h14 _<|hw_seq fun Nh16 h16=>srg fun N h17=>?_
  first
  | refine hq_ 37 (hop_fa fd_88_0 rfl) rfl rfl pre0 rfl rfl ?_
  | refine hq_ 37 (hop_fa_fp fd_88_0 rfl (by first | exact Nat.le_of_ble_eq_true rfl | omega | (dsimp only;omega) | (simp <;> omega))) rfl rfl pre0 rfl rfl ?_
  first
  | refine hq_ 38 (HOp.val (v':=intV (m.getD i default).at_) (hol_load ty_3 rfl (by first | exact Nat.le_of_ble_eq_true rfl | omega | (dsimp only;omega) | (simp <;> omega)) (by first | exact Nat.le_of_ble_eq_true rfl | omega | (dsimp only;omega) | (simp <;> omega)) (fun h=>(by first | rfl | cases h))) (rfl)) rfl rfl (pre1 rfl) rfl rfl ?_
  | refine hq_ 38 (HOp.val (v':=intV (m.getD i default).at_) (hop_load_fp ty_3 rfl (by first | exact Nat.le_of_ble_eq_true rfl | omega | (dsimp only;omega) | (simp <;> omega)) (fun h=>(by first | rfl | cases h))) (rfl)) rfl rfl pre0 rfl rfl ?_
  first
  | refine hq_ 39 (hol_load ty_3 rfl (by first | exact Nat.le_of_ble_eq_true rfl | omega | (dsimp only;omega) | (simp <;> omega)) (by first | exact Nat.le_of_ble_eq_true rfl | omega | (dsimp only;omega) | (simp <;> omega)) (fun h=>(by first | rfl | cases h))) rfl rfl (pre1 rfl) rfl rfl ?_
  | refine hq_ 39 (hop_load_fp ty_3 rfl (by first | exact Nat.le_of_ble_eq_true rfl | omega | (dsimp only;omega) | (simp <;> omega)) (fun h=>(by first | rfl | cases h))) rfl rfl pre0 rfl rfl ?_
  refine s0 (hop_leq rfl rfl) ?_
  refine snl h17 ?_
  refine wc (fun hc3=>?_) (fun hc3=>?_)
  ·have hr3:=hc3;(try simp only [hcs,Int.reduceToNat] at hc3)
   have e1:tellV m pos side=withinV (m.getD i default) i (shiftTo m i) pos side:=(by unfold tellV tellI;rw [hfi,if_neg om])
   refine srg fun N h18=>?_
   first
   | refine hq_ 41 (hol_load ty_88 rfl (by first | exact Nat.le_of_ble_eq_true rfl | omega | (dsimp only;omega) | (simp <;> omega)) (by first | exact Nat.le_of_ble_eq_true rfl | omega | (dsimp only;omega) | (simp <;> omega)) (fun h=>(by first | rfl | cases h))) rfl rfl (pre1 rfl) rfl rfl ?_
   | refine hq_ 41 (hop_load_fp ty_88 rfl (by first | exact Nat.le_of_ble_eq_true rfl | omega | (dsimp only;omega) | (simp <;> omega)) (fun h=>(by first | rfl | cases h))) rfl rfl pre0 rfl rfl ?_
   refine sm<|sm ?_
   first
   | refine hq_ 44 (hol_load ty_3 rfl (by first | exact Nat.le_of_ble_eq_true rfl | omega | (dsimp only;omega) | (simp <;> omega)) (by first | exact Nat.le_of_ble_eq_true rfl | omega | (dsimp only;omega) | (simp <;> omega)) (fun h=>(by first | rfl | cases h))) rfl rfl (pre1 rfl) rfl rfl ?_
   | refine hq_ 44 (hop_load_fp ty_3 rfl (by first | exact Nat.le_of_ble_eq_true rfl | omega | (dsimp only;omega) | (simp <;> omega)) (fun h=>(by first | rfl | cases h))) rfl rfl pre0 rfl rfl ?_
   first
   | refine hq_ 45 (hol_load ty_3 rfl (by first | exact Nat.le_of_ble_eq_true rfl | omega | (dsimp only;omega) | (simp <;> omega)) (by first | exact Nat.le_of_ble_eq_true rfl | omega | (dsimp only;omega) | (simp <;> omega)) (fun h=>(by first | rfl | cases h))) rfl rfl (pre1 rfl) rfl rfl ?_
   | refine hq_ 45 (hop_load_fp ty_3 rfl (by first | exact Nat.le_of_ble_eq_true rfl | omega | (dsimp only;omega) | (simp <;> omega)) (fun h=>(by first | rfl | cases h))) rfl rfl pre0 rfl rfl ?_
   refine s0 (hop_call0 (xs:=[_,_,_,_,_]) (within_h (m.getD i default) ⟨h1.1,h1.2.1,h1.2.2.1⟩ i (shiftTo m i) pos side om hpos) ⟨rfl,⟨rfl,⟨rfl,⟨rfl,⟨rfl,trivial⟩⟩⟩⟩⟩ ⟨fe,⟨fe,⟨fe,⟨fe,⟨fe,trivial⟩⟩⟩⟩⟩) ?_
   first
   | refine hm_s1 (hol_storeW ty_100 rfl rfl rfl rfl) rfl rfl (pre1 rfl) (c':=c+3) rfl ?_
   | refine hm_s1 (hol_store ty_100 rfl rfl rfl rfl (by first | exact Nat.le_of_ble_eq_true rfl | omega | (dsimp only;omega) | (simp <;> omega)) (by first | exact Nat.le_of_ble_eq_true rfl | omega | (dsimp only;omega) | (simp <;> omega)) (by first | exact Nat.le_of_ble_eq_true rfl | omega | (dsimp only;omega) | (simp <;> omega))) rfl rfl (pre1 rfl) (c':=c+3) rfl ?_
   first
   | refine hm_s1 (hol_storeW ty_52 rfl rfl rfl rfl) rfl rfl (pre1 rfl) (c':=c+4) rfl ?_
   | refine hm_s1 (hol_store ty_52 rfl rfl rfl rfl (by first | exact Nat.le_of_ble_eq_true rfl | omega | (dsimp only;omega) | (simp <;> omega)) (by first | exact Nat.le_of_ble_eq_true rfl | omega | (dsimp only;omega) | (simp <;> omega)) (by first | exact Nat.le_of_ble_eq_true rfl | omega | (dsimp only;omega) | (simp <;> omega))) rfl rfl (pre1 rfl) (c':=c+4) rfl ?_
   refine snl h18<|hw_ret<|hq_then_ret<|hq_block_ret ?_
   refine rq_ret ?_
   refine hq_block_ret<|hq_then_ret ?_
   refine hq_retP ?_
   refine hq_ret2 rfl (rvl_cell rfl rfl ty_100 rqc rfl rfl) (rvl_cell rfl rfl ty_52 rqc rfl rfl) [] rfl pre0 ?_
   rw [htp,e1];exact fz_t2 fe fe
  have hr3:=hc3;(try simp only [hcs,Int.reduceToNat] at hc3)
  have e1:tellV m pos side=⟨pos+shiftTo m i,false,false,0,0⟩:=(by unfold tellV tellI;rw [hfi,if_pos om])
  refine hw_skip<|h16 _<|srg fun N h19=>?_
  first
  | refine hq_ 47 (hol_load ty_3 rfl (by first | exact Nat.le_of_ble_eq_true rfl | omega | (dsimp only;omega) | (simp <;> omega)) (by first | exact Nat.le_of_ble_eq_true rfl | omega | (dsimp only;omega) | (simp <;> omega)) (fun h=>(by first | rfl | cases h))) rfl rfl (pre1 rfl) rfl rfl ?_
  | refine hq_ 47 (hop_load_fp ty_3 rfl (by first | exact Nat.le_of_ble_eq_true rfl | omega | (dsimp only;omega) | (simp <;> omega)) (fun h=>(by first | rfl | cases h))) rfl rfl pre0 rfl rfl ?_
  refine sm ?_
  first
  | refine hq_ 49 (hop_addi rfl rfl rfl (by first | exact Nat.le_of_ble_eq_true rfl | omega | (dsimp only;omega) | (simp <;> omega)) (by first | exact Nat.le_of_ble_eq_true rfl | omega | (dsimp only;omega) | (simp <;> omega))) rfl rfl pre0 rfl rfl ?_
  | refine hq_ 49 (hop_add rfl rfl) rfl rfl pre0 rfl rfl ?_
  refine s0 (hop_build (hs:=[(0,1,_)]) st_100 rfl rfl ⟨rfl,rfl,rfl,rfl,rfl,trivial⟩) ?_
  first
  | refine hm_s1 (hol_storeW ty_100 rfl rfl rfl rfl) rfl rfl (pre1 rfl) (c':=c+3) rfl ?_
  | refine hm_s1 (hol_store ty_100 rfl rfl rfl rfl (by first | exact Nat.le_of_ble_eq_true rfl | omega | (dsimp only;omega) | (simp <;> omega)) (by first | exact Nat.le_of_ble_eq_true rfl | omega | (dsimp only;omega) | (simp <;> omega)) (by first | exact Nat.le_of_ble_eq_true rfl | omega | (dsimp only;omega) | (simp <;> omega))) rfl rfl (pre1 rfl) (c':=c+3) rfl ?_
  first
  | refine hm_s1 (hol_storeW ty_52 rfl rfl rfl rfl) rfl rfl (pre1 rfl) (c':=c+4) rfl ?_
  | refine hm_s1 (hol_store ty_52 rfl rfl rfl rfl (by first | exact Nat.le_of_ble_eq_true rfl | omega | (dsimp only;omega) | (simp <;> omega)) (by first | exact Nat.le_of_ble_eq_true rfl | omega | (dsimp only;omega) | (simp <;> omega)) (by first | exact Nat.le_of_ble_eq_true rfl | omega | (dsimp only;omega) | (simp <;> omega))) rfl rfl (pre1 rfl) (c':=c+4) rfl ?_
  refine snl h19<|hw_ret<|hq_block_ret ?_
  refine rq_ret ?_
  refine hq_block_ret<|hq_then_ret ?_
  refine hq_retP ?_
  refine hq_ret2 rfl (rvl_cell rfl rfl ty_100 rqc rfl rfl) (rvl_cell rfl rfl ty_52 rqc rfl rfl) [] rfl pre0 ?_
  rw [htp,e1];exact fz_t2 (fz_plc (by exact j5i rfl rfl rfl rfl rfl)) (Fz.eq rfl)
 ·skip
  (try dsimp only at hx hi ⊢)
  obtain ⟨hil,hah⟩:=hx
  obtain rfl:i=m.length:=hi;have h2:=hsb m.length (Nat.le_refl _);have e1:tellV m pos side=⟨pos+shiftTo m m.length,false,false,0,0⟩:=(by unfold tellV tellI;rw [firstV_at hil hah (.inl rfl),if_pos (.inl rfl)])
  refine hq_block<|h8 _<|hw_seq fun Nh20 h20=>hd_start ?_
  first
  | refine hd_q 51 (hol_load ty_3 rfl (by first | exact Nat.le_of_ble_eq_true rfl | omega | (dsimp only;omega) | (simp <;> omega)) (by first | exact Nat.le_of_ble_eq_true rfl | omega | (dsimp only;omega) | (simp <;> omega)) (fun h=>(by first | rfl | cases h))) rfl rfl (pre1 rfl) rfl rfl (k':=1) rfl ?_
  | refine hd_q 51 (hop_load_fp ty_3 rfl (by first | exact Nat.le_of_ble_eq_true rfl | omega | (dsimp only;omega) | (simp <;> omega)) (fun h=>(by first | rfl | cases h))) rfl rfl pre0 rfl rfl (k':=1) rfl ?_
  first
  | refine hd_q 52 (hol_load ty_48 rfl (by first | exact Nat.le_of_ble_eq_true rfl | omega | (dsimp only;omega) | (simp <;> omega)) (by first | exact Nat.le_of_ble_eq_true rfl | omega | (dsimp only;omega) | (simp <;> omega)) (fun h=>(by first | rfl | cases h))) rfl rfl (pre1 rfl) rfl rfl (k':=2) rfl ?_
  | refine hd_q 52 (hop_load_fp ty_48 rfl (by first | exact Nat.le_of_ble_eq_true rfl | omega | (dsimp only;omega) | (simp <;> omega)) (fun h=>(by first | rfl | cases h))) rfl rfl pre0 rfl rfl (k':=2) rfl ?_
  refine d0 3 (hop_call0 (xs:=[_]) (shift_h m hm) ⟨rfl,trivial⟩ ⟨fe,trivial⟩) ?_
  first
  | refine hd_q 54 (hop_addi rfl rfl rfl (by first | exact Nat.le_of_ble_eq_true rfl | omega | (dsimp only;omega) | (simp <;> omega)) (by first | exact Nat.le_of_ble_eq_true rfl | omega | (dsimp only;omega) | (simp <;> omega))) rfl rfl pre0 rfl rfl (k':=4) rfl ?_
  | refine hd_q 54 (hop_add rfl rfl) rfl rfl pre0 rfl rfl (k':=4) rfl ?_
  refine d0 5 (hop_build (hs:=[(0,1,_)]) st_100 rfl rfl ⟨rfl,rfl,rfl,rfl,rfl,trivial⟩) ?_
  first
  | refine hd_s1 (hol_storeW ty_100 rfl rfl rfl rfl) rfl rfl (pre1 rfl) (k':=6) rfl ?_
  | refine hd_s1 (hol_store ty_100 rfl rfl rfl rfl (by first | exact Nat.le_of_ble_eq_true rfl | omega | (dsimp only;omega) | (simp <;> omega)) (by first | exact Nat.le_of_ble_eq_true rfl | omega | (dsimp only;omega) | (simp <;> omega)) (by first | exact Nat.le_of_ble_eq_true rfl | omega | (dsimp only;omega) | (simp <;> omega))) rfl rfl (pre1 rfl) (k':=6) rfl ?_
  first
  | refine hd_s1 (hol_storeW ty_52 rfl rfl rfl rfl) rfl rfl (pre1 rfl) (k':=7) rfl ?_
  | refine hd_s1 (hol_store ty_52 rfl rfl rfl rfl (by first | exact Nat.le_of_ble_eq_true rfl | omega | (dsimp only;omega) | (simp <;> omega)) (by first | exact Nat.le_of_ble_eq_true rfl | omega | (dsimp only;omega) | (simp <;> omega)) (by first | exact Nat.le_of_ble_eq_true rfl | omega | (dsimp only;omega) | (simp <;> omega))) rfl rfl (pre1 rfl) (k':=7) rfl ?_
  refine hd_nil kr kr (c':=c+7) rfl ?_
  refine h20 _<|hw_ret ?_
  refine hq_retP ?_
  refine hq_ret2 rfl (rvl_cell rfl rfl ty_100 rqc rfl rfl) (rvl_cell rfl rfl ty_52 rqc rfl rfl) [] rfl pre0 ?_
  rw [htp,e1];exact fz_t2 (fz_plc (by exact j5i rfl rfl rfl rfl rfl)) (Fz.eq rfl)
@[reducible] def optI (o:Option Int):HV:=t2 (intV (o.getD 0)) (boolV o.isSome)
theorem recV_none {m:List Rg} {a off:Int} (h:∀ q:Nat,q < m.length→(q:Int)=a→¬ (0≤off∧off≤(m.getD q default).new)):recV m a off=none:=by
 unfold recV
 rw [if_neg]
 rintro ⟨_,h1,h2,h3⟩
 exact h a.toNat (by omega) (by omega) h3
theorem recover_h (m:List Rg) (a off:Int) (hoff:off≤1099511627776):HPure Try.prog 68 [rgsV m,intV a,intV off] (optI (recV m a off)):=by
 refine hpure_ofM Try.func68 rfl kr _ _ _ rfl 42 rfl rfl (fun w F=>?_)
 refine srg fun N h1=>?_
 refine hm_1 3 (hop_box (id:=3) (sz:=1) rfl rfl rfl omx omx) rfl rfl pre0 rfl rfl (c':=1) rfl ?_
 refine hm_1 4 (hop_box (id:=4) (sz:=1) rfl rfl rfl omx omx) rfl rfl pre0 rfl rfl (c':=2) rfl ?_
 refine hm_1 5 (hop_box (id:=5) (sz:=1) rfl rfl rfl omx omx) rfl rfl pre0 rfl rfl (c':=3) rfl ?_
 refine hm_1 6 (hop_alloc (id:=6) (sz:=1) zc_3 rfl rfl omx omx) rfl rfl pre0 rfl rfl (c':=4) rfl ?_
 refine hm_1 7 (hop_alloc (id:=7) (sz:=1) zc_4 rfl rfl omx omx) rfl rfl pre0 rfl rfl (c':=5) rfl ?_
 refine snl h1<|hw_seq fun Nh2 h2=>srg fun N h3=>?_
 first
 | refine hq_ 10 (hol_load ty_48 rfl (by first | exact Nat.le_of_ble_eq_true rfl | omega | (dsimp only;omega) | (simp <;> omega)) (by first | exact Nat.le_of_ble_eq_true rfl | omega | (dsimp only;omega) | (simp <;> omega)) (fun h=>(by first | rfl | cases h))) rfl rfl (pre1 rfl) rfl rfl ?_
 | refine hq_ 10 (hop_load_fp ty_48 rfl (by first | exact Nat.le_of_ble_eq_true rfl | omega | (dsimp only;omega) | (simp <;> omega)) (fun h=>(by first | rfl | cases h))) rfl rfl pre0 rfl rfl ?_
 refine s0 (hop_call0 (xs:=[_]) (right_h m) ⟨rfl,trivial⟩ ⟨fe,trivial⟩) ?_
 refine s0 (hop_not rfl) ?_
 refine snl h3 ?_
 refine wc (fun hc0=>?_) (fun hc0=>?_)
 ·have hr0:=hc0;(try simp only [hcs,Int.reduceToNat] at hc0)
  have hm:¬ rightM m=true:=(by simpa using hr0);have hn:recV m a off=none:=(by unfold recV;rw [if_neg (fun h=>hm h.1)])
  refine srg fun N h4=>?_
  first
  | refine hm_s1 (hol_storeW ty_3 rfl rfl rfl rfl) rfl rfl (pre1 rfl) (c':=6) rfl ?_
  | refine hm_s1 (hol_store ty_3 rfl rfl rfl rfl (by first | exact Nat.le_of_ble_eq_true rfl | omega | (dsimp only;omega) | (simp <;> omega)) (by first | exact Nat.le_of_ble_eq_true rfl | omega | (dsimp only;omega) | (simp <;> omega)) (by first | exact Nat.le_of_ble_eq_true rfl | omega | (dsimp only;omega) | (simp <;> omega))) rfl rfl (pre1 rfl) (c':=6) rfl ?_
  first
  | refine hm_s1 (hol_storeW ty_4 rfl rfl rfl rfl) rfl rfl (pre1 rfl) (c':=7) rfl ?_
  | refine hm_s1 (hol_store ty_4 rfl rfl rfl rfl (by first | exact Nat.le_of_ble_eq_true rfl | omega | (dsimp only;omega) | (simp <;> omega)) (by first | exact Nat.le_of_ble_eq_true rfl | omega | (dsimp only;omega) | (simp <;> omega)) (by first | exact Nat.le_of_ble_eq_true rfl | omega | (dsimp only;omega) | (simp <;> omega))) rfl rfl (pre1 rfl) (c':=7) rfl ?_
  refine snl h4<|hw_ret<|hq_then_ret ?_
  refine hq_retP ?_
  refine hq_ret2 rfl (rvl_cell rfl rfl ty_3 rqc rfl rfl) (rvl_cell rfl rfl ty_4 rqc rfl rfl) [] rfl pre0 ?_
  rw [hn];exact fz_t2 fe fe
 have hr0:=hc0;(try simp only [hcs,Int.reduceToNat] at hc0)
 have hm:rightM m=true:=(by simpa using hr0);obtain ⟨hml,hmr⟩:=rightM_iff.1 hm;have hrg:=fun i hi=>rg_at hmr (i:=i) hi;have hsb:=fun i hi=>shift_bd hmr i hi
 refine hw_skip<|h2 _<|hw_seq fun Nh5 h5=>srg fun N h6=>?_
 first
 | refine hq_ 13 (hol_load ty_48 rfl (by first | exact Nat.le_of_ble_eq_true rfl | omega | (dsimp only;omega) | (simp <;> omega)) (by first | exact Nat.le_of_ble_eq_true rfl | omega | (dsimp only;omega) | (simp <;> omega)) (fun h=>(by first | rfl | cases h))) rfl rfl (pre1 rfl) rfl rfl ?_
 | refine hq_ 13 (hop_load_fp ty_48 rfl (by first | exact Nat.le_of_ble_eq_true rfl | omega | (dsimp only;omega) | (simp <;> omega)) (fun h=>(by first | rfl | cases h))) rfl rfl pre0 rfl rfl ?_
 refine s0 (hop_call0 (xs:=[_]) (ranges_h m) ⟨rfl,trivial⟩ ⟨fe,trivial⟩) ?_
 refine snl h6<|hw_block ?_
 refine hw_range (α:=Nat) ⟨rfl,rfl,rfl⟩ (ranges_it m hm) rfl (cs:=[_]) rfl (fun i hi=>by first | rfl | (cases i <;> first | rfl | (simp at hi))) ⟨(Fz.eq rfl),trivial⟩ rfl (fun _=>rfl) rfl (fun x=>[(3,⟨0,1,1,48,0,fun _ _=>rgsV m⟩),(4,boxIO 1 a),(5,boxIO 2 off),(6,boxIO 3 0),(7,⟨4,1,1,4,0,fun _ _=>boolV false⟩)]) (fun x=>x) (fun x=>x≤m.length∧∀ q:Nat,q < x→(q:Int)=a→¬ (0≤off∧off≤(m.getD q default).new)) (0) (by exact ⟨Nat.zero_le _,fun q h=>absurd h (Nat.not_lt_zero _)⟩) (by first | rfl | omega) (hsr rfl (hsr rfl (hsr rfl (HpSub.cons rfl (OSub.of fun i j hi hj=>by obtain rfl:j=0:=om;exact .refl _) (HpSub.cons rfl (OSub.of fun i j hi hj=>by obtain rfl:j=0:=om;exact .refl _) HpSub.nil))))) rfl (fun i c hx hi C1 lr hC1 NhR7 hR7=>?_) (fun i c hx hi=>?_)
 ·skip
  (try dsimp only at hx hi hR7 ⊢)
  obtain ⟨hil,hah⟩:=hx
  have h1:=hrg i hi;have h2:=hsb i om
  refine srg fun N h8=>sa<|snl h8<|hw_region<|sa<|hseq_nil ?_
  refine hR7 _ (fun C2 hC9=>?_)
  refine hw_block<|hw_seq fun Nh10 h10=>hd_start ?_
  refine dm 1 ?_
  first
  | refine hd_q 18 (hol_load ty_3 rfl (by first | exact Nat.le_of_ble_eq_true rfl | omega | (dsimp only;omega) | (simp <;> omega)) (by first | exact Nat.le_of_ble_eq_true rfl | omega | (dsimp only;omega) | (simp <;> omega)) (fun h=>(by first | rfl | cases h))) rfl rfl (pre1 rfl) rfl rfl (k':=2) rfl ?_
  | refine hd_q 18 (hop_load_fp ty_3 rfl (by first | exact Nat.le_of_ble_eq_true rfl | omega | (dsimp only;omega) | (simp <;> omega)) (fun h=>(by first | rfl | cases h))) rfl rfl pre0 rfl rfl (k':=2) rfl ?_
  refine d0 3 hqi ?_
  refine dm 4 ?_
  first
  | refine hd_g 21 3 20 true _ (fun hb=>hol_load ty_3 rfl (by first | exact Nat.le_of_ble_eq_true rfl | (simp at hb;first | omega | (dsimp only;omega) | (simp <;> omega)) | omega | (dsimp only;omega)) (by first | exact Nat.le_of_ble_eq_true rfl | (simp at hb;first | omega | (dsimp only;omega) | (simp <;> omega)) | omega | (dsimp only;omega)) (fun h=>(by first | rfl | cases h))) rfl rfl rfl rfl (pre1 rfl) rfl rfl rfl (k':=5) rfl ?_
  | refine hd_g 21 3 20 true _ (fun hb=>hop_load_fp ty_3 rfl (by first | exact Nat.le_of_ble_eq_true rfl | (simp at hb;first | omega | (dsimp only;omega) | (simp <;> omega)) | omega | (dsimp only;omega)) (fun h=>(by first | rfl | cases h))) rfl rfl rfl rfl pre0 rfl rfl rfl (k':=5) rfl ?_
  refine hd_g 22 3 20 true _ (fun hb=>hop_geq rfl rfl) rfl rfl rfl rfl pre0 rfl rfl rfl (k':=6) rfl ?_
  first
  | refine hd_p 23 (hstep_and _ _ rfl rfl rfl) rfl rfl rfl (k':=7) rfl ?_
  | refine hd_p 23 (hstep_or _ _ rfl rfl rfl) rfl rfl rfl (k':=7) rfl ?_
  | refine hd_p 23 (hstep_pick _ _ _ _ rfl rfl rfl (fun _=>.refl _) (fun _=>.refl _)) rfl rfl rfl (k':=7) rfl ?_
  refine dm 8 ?_
  first
  | refine hd_g 25 7 24 true _ (fun hb=>hol_load ty_3 rfl (by first | exact Nat.le_of_ble_eq_true rfl | (simp at hb;first | omega | (dsimp only;omega) | (simp <;> omega)) | omega | (dsimp only;omega)) (by first | exact Nat.le_of_ble_eq_true rfl | (simp at hb;first | omega | (dsimp only;omega) | (simp <;> omega)) | omega | (dsimp only;omega)) (fun h=>(by first | rfl | cases h))) rfl rfl rfl rfl (pre1 rfl) rfl rfl rfl (k':=9) rfl ?_
  | refine hd_g 25 7 24 true _ (fun hb=>hop_load_fp ty_3 rfl (by first | exact Nat.le_of_ble_eq_true rfl | (simp at hb;first | omega | (dsimp only;omega) | (simp <;> omega)) | omega | (dsimp only;omega)) (fun h=>(by first | rfl | cases h))) rfl rfl rfl rfl pre0 rfl rfl rfl (k':=9) rfl ?_
  first
  | refine hd_g 26 7 24 true _ (fun hb=>hol_load ty_48 rfl (by first | exact Nat.le_of_ble_eq_true rfl | (simp at hb;first | omega | (dsimp only;omega) | (simp <;> omega)) | omega | (dsimp only;omega)) (by first | exact Nat.le_of_ble_eq_true rfl | (simp at hb;first | omega | (dsimp only;omega) | (simp <;> omega)) | omega | (dsimp only;omega)) (fun h=>(by first | rfl | cases h))) rfl rfl rfl rfl (pre1 rfl) rfl rfl rfl (k':=10) rfl ?_
  | refine hd_g 26 7 24 true _ (fun hb=>hop_load_fp ty_48 rfl (by first | exact Nat.le_of_ble_eq_true rfl | (simp at hb;first | omega | (dsimp only;omega) | (simp <;> omega)) | omega | (dsimp only;omega)) (fun h=>(by first | rfl | cases h))) rfl rfl rfl rfl pre0 rfl rfl rfl (k':=10) rfl ?_
  refine hd_g 27 7 24 true _ (fun hb=>hop_move rfl) rfl rfl rfl rfl pre0 rfl rfl rfl (k':=11) rfl ?_
  first
  | refine hd_g 28 7 24 true _ (fun hb=>hop_ia_sl el_48 rfl rfl (by first | exact Nat.le_of_ble_eq_true rfl | (simp at hb;first | omega | (dsimp only;omega) | (simp <;> omega)) | omega | (dsimp only;omega)) (by first | exact Nat.le_of_ble_eq_true rfl | (simp at hb;first | omega | (dsimp only;omega) | (simp <;> omega)) | omega | (dsimp only;omega)) (by first | exact Nat.le_of_ble_eq_true rfl | (simp at hb;first | omega | (dsimp only;omega) | (simp <;> omega)) | omega | (dsimp only;omega))) rfl rfl rfl rfl pre0 rfl rfl rfl (k':=12) rfl ?_
  | refine hd_g 28 7 24 true _ (fun hb=>hol_ia_os el_48 rfl rfl (by first | exact Nat.le_of_ble_eq_true rfl | (simp at hb;first | omega | (dsimp only;omega) | (simp <;> omega)) | omega | (dsimp only;omega)) (by first | exact Nat.le_of_ble_eq_true rfl | (simp at hb;first | omega | (dsimp only;omega) | (simp <;> omega)) | omega | (dsimp only;omega))) rfl rfl rfl rfl (pre1 rfl) rfl rfl rfl (k':=12) rfl ?_
  first
  | refine hd_g 29 7 24 true _ (fun hb=>hop_fa fd_88_2 rfl) rfl rfl rfl rfl pre0 rfl rfl rfl (k':=13) rfl ?_
  | refine hd_g 29 7 24 true _ (fun hb=>hop_fa_fp fd_88_2 rfl (by first | exact Nat.le_of_ble_eq_true rfl | (simp at hb;first | omega | (dsimp only;omega) | (simp <;> omega)) | omega | (dsimp only;omega))) rfl rfl rfl rfl pre0 rfl rfl rfl (k':=13) rfl ?_
  first
  | refine hd_g 30 7 24 true _ (fun hb=>HOp.val (v':=intV (m.getD i default).new) (hol_load ty_3 rfl (by first | exact Nat.le_of_ble_eq_true rfl | (simp at hb;first | omega | (dsimp only;omega) | (simp <;> omega)) | omega | (dsimp only;omega)) (by first | exact Nat.le_of_ble_eq_true rfl | (simp at hb;first | omega | (dsimp only;omega) | (simp <;> omega)) | omega | (dsimp only;omega)) (fun h=>(by first | rfl | cases h))) (rfl)) rfl rfl rfl rfl (pre1 rfl) rfl rfl rfl (k':=14) rfl ?_
  | refine hd_g 30 7 24 true _ (fun hb=>HOp.val (v':=intV (m.getD i default).new) (hop_load_fp ty_3 rfl (by first | exact Nat.le_of_ble_eq_true rfl | (simp at hb;first | omega | (dsimp only;omega) | (simp <;> omega)) | omega | (dsimp only;omega)) (fun h=>(by first | rfl | cases h))) (rfl)) rfl rfl rfl rfl pre0 rfl rfl rfl (k':=14) rfl ?_
  refine hd_g 31 7 24 true _ (fun hb=>hop_leq rfl rfl) rfl rfl rfl rfl pre0 rfl rfl rfl (k':=15) rfl ?_
  first
  | refine hd_p 32 (hstep_and _ _ rfl rfl rfl) rfl rfl rfl (k':=16) rfl ?_
  | refine hd_p 32 (hstep_or _ _ rfl rfl rfl) rfl rfl rfl (k':=16) rfl ?_
  | refine hd_p 32 (hstep_pick _ _ _ _ rfl rfl rfl (fun _=>.refl _) (fun _=>.refl _)) rfl rfl rfl (k':=16) rfl ?_
  refine hd_nilU kr kr (by rfl) (by simp only [dropUn,slots];exact rfl) (c':=c+16) rfl ?_
  refine h10 _ ?_
  refine wc (fun hc1=>?_) (fun hc1=>?_)
  ·have hr1:=hc1;(try simp only [hcs,Int.reduceToNat] at hc1)
   have hn:recV m a off=some ((m.getD i default).at_+shiftTo m i+off):=(by unfold recV;obtain ⟨⟨h3,h4⟩,h5⟩:=hc1;have h6:a.toNat=i:=om;rw [h6,if_pos ⟨hm,by omega,by omega,h4,h5⟩])
   refine hw_seq fun Nh11 h11=>hd_start ?_
   first
   | refine hd_q 33 (hol_load ty_48 rfl (by first | exact Nat.le_of_ble_eq_true rfl | omega | (dsimp only;omega) | (simp <;> omega)) (by first | exact Nat.le_of_ble_eq_true rfl | omega | (dsimp only;omega) | (simp <;> omega)) (fun h=>(by first | rfl | cases h))) rfl rfl (pre1 rfl) rfl rfl (k':=1) rfl ?_
   | refine hd_q 33 (hop_load_fp ty_48 rfl (by first | exact Nat.le_of_ble_eq_true rfl | omega | (dsimp only;omega) | (simp <;> omega)) (fun h=>(by first | rfl | cases h))) rfl rfl pre0 rfl rfl (k':=1) rfl ?_
   refine dm 2 ?_
   first
   | refine hd_q 35 (hop_ia_sl el_48 rfl rfl (by first | exact Nat.le_of_ble_eq_true rfl | omega | (dsimp only;omega) | (simp <;> omega)) (by first | exact Nat.le_of_ble_eq_true rfl | omega | (dsimp only;omega) | (simp <;> omega)) (by first | exact Nat.le_of_ble_eq_true rfl | omega | (dsimp only;omega) | (simp <;> omega))) rfl rfl pre0 rfl rfl (k':=3) rfl ?_
   | refine hd_q 35 (hol_ia_os el_48 rfl rfl (by first | exact Nat.le_of_ble_eq_true rfl | omega | (dsimp only;omega) | (simp <;> omega)) (by first | exact Nat.le_of_ble_eq_true rfl | omega | (dsimp only;omega) | (simp <;> omega))) rfl rfl (pre1 rfl) rfl rfl (k':=3) rfl ?_
   first
   | refine hd_q 36 (hop_fa fd_88_0 rfl) rfl rfl pre0 rfl rfl (k':=4) rfl ?_
   | refine hd_q 36 (hop_fa_fp fd_88_0 rfl (by first | exact Nat.le_of_ble_eq_true rfl | omega | (dsimp only;omega) | (simp <;> omega))) rfl rfl pre0 rfl rfl (k':=4) rfl ?_
   first
   | refine hd_q 37 (HOp.val (v':=intV (m.getD i default).at_) (hol_load ty_3 rfl (by first | exact Nat.le_of_ble_eq_true rfl | omega | (dsimp only;omega) | (simp <;> omega)) (by first | exact Nat.le_of_ble_eq_true rfl | omega | (dsimp only;omega) | (simp <;> omega)) (fun h=>(by first | rfl | cases h))) (rfl)) rfl rfl (pre1 rfl) rfl rfl (k':=5) rfl ?_
   | refine hd_q 37 (HOp.val (v':=intV (m.getD i default).at_) (hop_load_fp ty_3 rfl (by first | exact Nat.le_of_ble_eq_true rfl | omega | (dsimp only;omega) | (simp <;> omega)) (fun h=>(by first | rfl | cases h))) (rfl)) rfl rfl pre0 rfl rfl (k':=5) rfl ?_
   refine dm 6 ?_
   first
   | refine hd_q 39 (hop_addi rfl rfl rfl (by first | exact Nat.le_of_ble_eq_true rfl | omega | (dsimp only;omega) | (simp <;> omega)) (by first | exact Nat.le_of_ble_eq_true rfl | omega | (dsimp only;omega) | (simp <;> omega))) rfl rfl pre0 rfl rfl (k':=7) rfl ?_
   | refine hd_q 39 (hop_add rfl rfl) rfl rfl pre0 rfl rfl (k':=7) rfl ?_
   first
   | refine hd_q 40 (hol_load ty_3 rfl (by first | exact Nat.le_of_ble_eq_true rfl | omega | (dsimp only;omega) | (simp <;> omega)) (by first | exact Nat.le_of_ble_eq_true rfl | omega | (dsimp only;omega) | (simp <;> omega)) (fun h=>(by first | rfl | cases h))) rfl rfl (pre1 rfl) rfl rfl (k':=8) rfl ?_
   | refine hd_q 40 (hop_load_fp ty_3 rfl (by first | exact Nat.le_of_ble_eq_true rfl | omega | (dsimp only;omega) | (simp <;> omega)) (fun h=>(by first | rfl | cases h))) rfl rfl pre0 rfl rfl (k':=8) rfl ?_
   first
   | refine hd_q 41 (hop_addi rfl rfl rfl (by first | exact Nat.le_of_ble_eq_true rfl | omega | (dsimp only;omega) | (simp <;> omega)) (by first | exact Nat.le_of_ble_eq_true rfl | omega | (dsimp only;omega) | (simp <;> omega))) rfl rfl pre0 rfl rfl (k':=9) rfl ?_
   | refine hd_q 41 (hop_add rfl rfl) rfl rfl pre0 rfl rfl (k':=9) rfl ?_
   first
   | refine hd_s1 (hol_storeW ty_3 rfl rfl rfl rfl) rfl rfl (pre1 rfl) (k':=10) rfl ?_
   | refine hd_s1 (hol_store ty_3 rfl rfl rfl rfl (by first | exact Nat.le_of_ble_eq_true rfl | omega | (dsimp only;omega) | (simp <;> omega)) (by first | exact Nat.le_of_ble_eq_true rfl | omega | (dsimp only;omega) | (simp <;> omega)) (by first | exact Nat.le_of_ble_eq_true rfl | omega | (dsimp only;omega) | (simp <;> omega))) rfl rfl (pre1 rfl) (k':=10) rfl ?_
   first
   | refine hd_s1 (hol_storeW ty_4 rfl rfl rfl rfl) rfl rfl (pre1 rfl) (k':=11) rfl ?_
   | refine hd_s1 (hol_store ty_4 rfl rfl rfl rfl (by first | exact Nat.le_of_ble_eq_true rfl | omega | (dsimp only;omega) | (simp <;> omega)) (by first | exact Nat.le_of_ble_eq_true rfl | omega | (dsimp only;omega) | (simp <;> omega)) (by first | exact Nat.le_of_ble_eq_true rfl | omega | (dsimp only;omega) | (simp <;> omega))) rfl rfl (pre1 rfl) (k':=11) rfl ?_
   refine hd_nil kr kr (c':=c+27) rfl ?_
   refine h11 _<|hw_ret<|hq_block_ret ?_
   refine rq_ret ?_
   refine hq_block_ret<|hq_then_ret ?_
   refine hq_retP ?_
   refine hq_ret2 rfl (rvl_cell rfl rfl ty_3 rqc rfl rfl) (rvl_cell rfl rfl ty_4 rqc rfl rfl) [] rfl pre0 ?_
   rw [hn];exact fz_t2 fe fe
  have hr1:=hc1;(try simp only [hcs,Int.reduceToNat] at hc1)
  refine hw_skip<|hq_block ?_
  exact rq_normal ⟨i+1,by (try dsimp only);exact ⟨by omega,fun q hq=>by by_cases e:q=i;(subst e;intro h3 h4;simp only [Bool.and_eq_false_iff,decide_eq_false_iff_not,beq_eq_false_iff_ne,ne_eq] at hc1;omega);(exact hah q om)⟩,by first | rfl | omega,hsa⟩
 ·skip
  (try dsimp only at hx hi ⊢)
  obtain ⟨hil,hah⟩:=hx
  obtain rfl:i=m.length:=hi;have hn:recV m a off=none:=recV_none hah
  refine hq_block<|h5 _<|srg fun N h12=>?_
  first
  | refine hm_s1 (hol_storeW ty_3 rfl rfl rfl rfl) rfl rfl (pre1 rfl) (c':=c+1) rfl ?_
  | refine hm_s1 (hol_store ty_3 rfl rfl rfl rfl (by first | exact Nat.le_of_ble_eq_true rfl | omega | (dsimp only;omega) | (simp <;> omega)) (by first | exact Nat.le_of_ble_eq_true rfl | omega | (dsimp only;omega) | (simp <;> omega)) (by first | exact Nat.le_of_ble_eq_true rfl | omega | (dsimp only;omega) | (simp <;> omega))) rfl rfl (pre1 rfl) (c':=c+1) rfl ?_
  first
  | refine hm_s1 (hol_storeW ty_4 rfl rfl rfl rfl) rfl rfl (pre1 rfl) (c':=c+2) rfl ?_
  | refine hm_s1 (hol_store ty_4 rfl rfl rfl rfl (by first | exact Nat.le_of_ble_eq_true rfl | omega | (dsimp only;omega) | (simp <;> omega)) (by first | exact Nat.le_of_ble_eq_true rfl | omega | (dsimp only;omega) | (simp <;> omega)) (by first | exact Nat.le_of_ble_eq_true rfl | omega | (dsimp only;omega) | (simp <;> omega))) rfl rfl (pre1 rfl) (c':=c+2) rfl ?_
  refine snl h12<|hw_ret ?_
  refine hq_retP ?_
  refine hq_ret2 rfl (rvl_cell rfl rfl ty_3 rqc rfl rfl) (rvl_cell rfl rfl ty_4 rqc rfl rfl) [] rfl pre0 ?_
  rw [hn];exact fz_t2 fe fe
@[reducible] def plcT (ty g:Nat) (p:Plc):HObj:=⟨g,1,5,ty,0,fun _=>plcF p⟩
theorem osub_plcT {ty g:Nat} {F:Nat→Nat→HV} {p:Plc} (h:∀ j,j < 5→F 0 j=plcF p j):OSub ⟨g,1,5,ty,0,F⟩ (plcT ty g p):=OSub.of fun i j hi hj=>by
 obtain rfl:i=0:=by omega
 rw [h j hj];exact .refl _
def dspV (r:Rg) (pos side:Int):Prop:=(0 < r.old∧pos=r.at_+r.old)∨(pos≠r.at_∧side≥0)∨(r.old=0∧side≥0)
instance (r:Rg) (pos side:Int):Decidable (dspV r pos side):=by unfold dspV;infer_instance
def dtkV (pos side:Int):Int:=if side < 0 then pos - 1 else pos
def dgnV (r:Rg) (pos side:Int):Bool:=decide (r.at_≤dtkV pos side)&&decide (dtkV pos side < r.at_+r.old)
theorem withinD_eq (r:Rg) (i sh pos side:Int):withinD r i sh pos side=⟨r.at_+sh+(if dspV r pos side then r.new else 0),dgnV r pos side,insV r pos,if dgnV r pos side=true then i else 0,if dgnV r pos side=true then pos - r.at_ else 0⟩:=rfl
theorem tell23_h (m:List Rg) (hm:rightM m=true) (pos side:Int) (hpos:0≤pos∧pos≤1099511627776):HPure Try.prog 60 [rgsV m,intV pos,intV side] (plcH (tellV m pos side)):=by
 obtain ⟨hml,hmr⟩:=rightM_iff.1 hm
 have hrg:=fun i hi=>rg_at hmr (i:=i) hi
 have hsb:=fun i hi=>shift_bd hmr i hi
 refine hpure_of Try.func60 rfl kr _ _ _ rfl 137 rfl rfl (fun w F=>?_)
 refine srg fun N h1=>?_
 refine hm_1 6 (hop_alloc (id:=6) (sz:=5) zc_93 rfl rfl omx omx) rfl rfl pre0 rfl rfl (c':=1) rfl ?_
 refine snl h1<|srg fun N h2=>sa<|snl h2<|hw_seq fun Nh3 h3=>hw_block ?_
 refine hw_loopc (α:=Nat) (fun x c=>⟨137,[(0,.v (rgsV m)),(1,.v (intV pos)),(2,.v (intV side)),(6,.v (.pt 6 0 0 0)),(7,.v (intV (x:Int)))],[(6,plcT 93 0 ⟨0,false,false,0,0⟩)],c⟩) (fun x=>x≤m.length∧(∀ q,q < x→(m.getD q default).at_+(m.getD q default).old < pos)∧(x < m.length→((0≤(m.getD x default).at_∧(m.getD x default).at_≤1073741824)∧(0≤(m.getD x default).old∧(m.getD x default).old≤1073741824)∧(0≤(m.getD x default).new∧(m.getD x default).new≤1073741824)∧endAt m x < (m.getD x default).at_))) (fun x=>m.length - x) (0) (by exact ⟨Nat.zero_le _,fun q h=>absurd h (Nat.not_lt_zero _),hrg 0⟩) (hsub_of rfl (Nat.le_refl _) tsa (HpSub.cons rfl (osub_plcT (by exact j5i rfl rfl rfl rfl rfl)) HpSub.nil)) (fun i c hx NhL4 hL4=>?_)
 (try dsimp only at hx hL4 ⊢)
 obtain ⟨hil,hah,h1⟩:=hx
 refine hw_seq fun Nh5 h5=>hw_seq fun Nh6 h6=>hd_start ?_
 refine dm 1 ?_
 refine dm 2 ?_
 first
 | refine hd_q 14 (hop_len_sl (T:=48) rfl (elOf_spec el_48).1 rfl) rfl rfl pre0 rfl rfl (k':=3) rfl ?_
 | refine hd_q 14 (hop_len_os (T:=48) rfl (elOf_spec el_48).1 rfl) rfl rfl pre0 rfl rfl (k':=3) rfl ?_
 | refine hd_q 14 (hop_len_nil (T:=48) rfl (elOf_spec el_48).1 rfl) rfl rfl pre0 rfl rfl (k':=3) rfl ?_
 refine d0 4 hli ?_
 refine dm 5 ?_
 refine hd_g 17 4 16 true _ (fun hb=>hop_move rfl) rfl rfl rfl rfl pre0 rfl rfl rfl (k':=6) rfl ?_
 refine hd_g 18 4 16 true _ (fun hb=>hop_move rfl) rfl rfl rfl rfl pre0 rfl rfl rfl (k':=7) rfl ?_
 first
 | refine hd_g 19 4 16 true _ (fun hb=>hop_ia_sl el_48 rfl rfl (by first | exact Nat.le_of_ble_eq_true rfl | (simp at hb;first | omega | (dsimp only;omega) | (simp <;> omega)) | omega | (dsimp only;omega)) (by first | exact Nat.le_of_ble_eq_true rfl | (simp at hb;first | omega | (dsimp only;omega) | (simp <;> omega)) | omega | (dsimp only;omega)) (by first | exact Nat.le_of_ble_eq_true rfl | (simp at hb;first | omega | (dsimp only;omega) | (simp <;> omega)) | omega | (dsimp only;omega))) rfl rfl rfl rfl pre0 rfl rfl rfl (k':=8) rfl ?_
 | refine hd_g 19 4 16 true _ (fun hb=>hol_ia_os el_48 rfl rfl (by first | exact Nat.le_of_ble_eq_true rfl | (simp at hb;first | omega | (dsimp only;omega) | (simp <;> omega)) | omega | (dsimp only;omega)) (by first | exact Nat.le_of_ble_eq_true rfl | (simp at hb;first | omega | (dsimp only;omega) | (simp <;> omega)) | omega | (dsimp only;omega))) rfl rfl rfl rfl (pre1 rfl) rfl rfl rfl (k':=8) rfl ?_
 first
 | refine hd_g 20 4 16 true _ (fun hb=>hop_fa fd_88_0 rfl) rfl rfl rfl rfl pre0 rfl rfl rfl (k':=9) rfl ?_
 | refine hd_g 20 4 16 true _ (fun hb=>hop_fa_fp fd_88_0 rfl (by first | exact Nat.le_of_ble_eq_true rfl | (simp at hb;first | omega | (dsimp only;omega) | (simp <;> omega)) | omega | (dsimp only;omega))) rfl rfl rfl rfl pre0 rfl rfl rfl (k':=9) rfl ?_
 first
 | refine hd_g 21 4 16 true _ (fun hb=>HOp.val (v':=intV (m.getD i default).at_) (hol_load ty_3 rfl (by first | exact Nat.le_of_ble_eq_true rfl | (simp at hb;first | omega | (dsimp only;omega) | (simp <;> omega)) | omega | (dsimp only;omega)) (by first | exact Nat.le_of_ble_eq_true rfl | (simp at hb;first | omega | (dsimp only;omega) | (simp <;> omega)) | omega | (dsimp only;omega)) (fun h=>(by first | rfl | cases h))) (rfl)) rfl rfl rfl rfl (pre1 rfl) rfl rfl rfl (k':=10) rfl ?_
 | refine hd_g 21 4 16 true _ (fun hb=>HOp.val (v':=intV (m.getD i default).at_) (hop_load_fp ty_3 rfl (by first | exact Nat.le_of_ble_eq_true rfl | (simp at hb;first | omega | (dsimp only;omega) | (simp <;> omega)) | omega | (dsimp only;omega)) (fun h=>(by first | rfl | cases h))) (rfl)) rfl rfl rfl rfl pre0 rfl rfl rfl (k':=10) rfl ?_
 refine hd_g 22 4 16 true _ (fun hb=>hop_move rfl) rfl rfl rfl rfl pre0 rfl rfl rfl (k':=11) rfl ?_
 refine hd_g 23 4 16 true _ (fun hb=>hop_move rfl) rfl rfl rfl rfl pre0 rfl rfl rfl (k':=12) rfl ?_
 first
 | refine hd_g 24 4 16 true _ (fun hb=>hop_ia_sl el_48 rfl rfl (by first | exact Nat.le_of_ble_eq_true rfl | (simp at hb;first | omega | (dsimp only;omega) | (simp <;> omega)) | omega | (dsimp only;omega)) (by first | exact Nat.le_of_ble_eq_true rfl | (simp at hb;first | omega | (dsimp only;omega) | (simp <;> omega)) | omega | (dsimp only;omega)) (by first | exact Nat.le_of_ble_eq_true rfl | (simp at hb;first | omega | (dsimp only;omega) | (simp <;> omega)) | omega | (dsimp only;omega))) rfl rfl rfl rfl pre0 rfl rfl rfl (k':=13) rfl ?_
 | refine hd_g 24 4 16 true _ (fun hb=>hol_ia_os el_48 rfl rfl (by first | exact Nat.le_of_ble_eq_true rfl | (simp at hb;first | omega | (dsimp only;omega) | (simp <;> omega)) | omega | (dsimp only;omega)) (by first | exact Nat.le_of_ble_eq_true rfl | (simp at hb;first | omega | (dsimp only;omega) | (simp <;> omega)) | omega | (dsimp only;omega))) rfl rfl rfl rfl (pre1 rfl) rfl rfl rfl (k':=13) rfl ?_
 first
 | refine hd_g 25 4 16 true _ (fun hb=>hop_fa fd_88_1 rfl) rfl rfl rfl rfl pre0 rfl rfl rfl (k':=14) rfl ?_
 | refine hd_g 25 4 16 true _ (fun hb=>hop_fa_fp fd_88_1 rfl (by first | exact Nat.le_of_ble_eq_true rfl | (simp at hb;first | omega | (dsimp only;omega) | (simp <;> omega)) | omega | (dsimp only;omega))) rfl rfl rfl rfl pre0 rfl rfl rfl (k':=14) rfl ?_
 first
 | refine hd_g 26 4 16 true _ (fun hb=>HOp.val (v':=intV (m.getD i default).old) (hol_load ty_3 rfl (by first | exact Nat.le_of_ble_eq_true rfl | (simp at hb;first | omega | (dsimp only;omega) | (simp <;> omega)) | omega | (dsimp only;omega)) (by first | exact Nat.le_of_ble_eq_true rfl | (simp at hb;first | omega | (dsimp only;omega) | (simp <;> omega)) | omega | (dsimp only;omega)) (fun h=>(by first | rfl | cases h))) (rfl)) rfl rfl rfl rfl (pre1 rfl) rfl rfl rfl (k':=15) rfl ?_
 | refine hd_g 26 4 16 true _ (fun hb=>HOp.val (v':=intV (m.getD i default).old) (hop_load_fp ty_3 rfl (by first | exact Nat.le_of_ble_eq_true rfl | (simp at hb;first | omega | (dsimp only;omega) | (simp <;> omega)) | omega | (dsimp only;omega)) (fun h=>(by first | rfl | cases h))) (rfl)) rfl rfl rfl rfl pre0 rfl rfl rfl (k':=15) rfl ?_
 first
 | refine hd_g 27 4 16 true _ (fun hb=>hop_addi rfl rfl rfl (by first | exact Nat.le_of_ble_eq_true rfl | (simp at hb;first | omega | (dsimp only;omega) | (simp <;> omega)) | omega | (dsimp only;omega)) (by first | exact Nat.le_of_ble_eq_true rfl | (simp at hb;first | omega | (dsimp only;omega) | (simp <;> omega)) | omega | (dsimp only;omega))) rfl rfl rfl rfl pre0 rfl rfl rfl (k':=16) rfl ?_
 | refine hd_g 27 4 16 true _ (fun hb=>hop_add rfl rfl) rfl rfl rfl rfl pre0 rfl rfl rfl (k':=16) rfl ?_
 refine hd_g 28 4 16 true _ (fun hb=>hop_move rfl) rfl rfl rfl rfl pre0 rfl rfl rfl (k':=17) rfl ?_
 refine hd_g 29 4 16 true _ (fun hb=>hop_lss rfl rfl) rfl rfl rfl rfl pre0 rfl rfl rfl (k':=18) rfl ?_
 first
 | refine hd_p 30 (hstep_and _ _ rfl rfl rfl) rfl rfl rfl (k':=19) rfl ?_
 | refine hd_p 30 (hstep_or _ _ rfl rfl rfl) rfl rfl rfl (k':=19) rfl ?_
 | refine hd_p 30 (hstep_pick _ _ _ _ rfl rfl rfl (fun _=>.refl _) (fun _=>.refl _)) rfl rfl rfl (k':=19) rfl ?_
 refine hd_nilU kr kr (by rfl) (by simp only [dropUn,slots];exact rfl) (c':=c+19) rfl ?_
 refine h6 _ ?_
 refine wc (fun hc0=>?_) (fun hc0=>?_)
 ·have hr0:=hc0;(try simp only [hcs,Int.reduceToNat] at hc0)
  have hlt:i < m.length:=om
  refine hw_skip<|h5 _<|hw_block<|hw_region<|sm ?_
  first
  | refine hq_ 32 (hop_addi rfl rfl rfl (by first | exact Nat.le_of_ble_eq_true rfl | omega | (dsimp only;omega) | (simp <;> omega)) (by first | exact Nat.le_of_ble_eq_true rfl | omega | (dsimp only;omega) | (simp <;> omega))) rfl rfl pre0 rfl rfl ?_
  | refine hq_ 32 (hop_add rfl rfl) rfl rfl pre0 rfl rfl ?_
  refine sa<|hseq_nil<|hq_block ?_
  exact hL4 (i+1) _ _ (by (try dsimp only);exact ⟨by omega,fun q hq=>by by_cases e:q=i;(subst e;omega);(exact hah q om),hrg (i+1)⟩) (by (try dsimp only);omega) (hsub_of rfl (Nat.le_refl _) tsa hsa)
 have hr0:=hc0;(try simp only [hcs,Int.reduceToNat] at hc0)
 have hfi:firstV m pos=i:=firstV_at hil hah (by rcases Nat.eq_or_lt_of_le hil with h | h;(exact .inl h);(right;rw [decide_eq_true om,Bool.true_and,decide_eq_false_iff_not] at hr0;exact hr0));have h2:=hsb i hil
 refine hw_exit ?_
 refine hq_then_exit<|hq_then_exit<|hq_block_here<|h3 _<|srg fun N h7=>sm<|sm<|sm ?_
 refine s0 (hop_call0 (xs:=[_,_]) (shift23_h m hmr hml i hil) ⟨rfl,⟨rfl,trivial⟩⟩ ⟨fe,⟨fe,trivial⟩⟩) ?_
 first
 | refine hq_ 37 (hop_addi rfl rfl rfl (by first | exact Nat.le_of_ble_eq_true rfl | omega | (dsimp only;omega) | (simp <;> omega)) (by first | exact Nat.le_of_ble_eq_true rfl | omega | (dsimp only;omega) | (simp <;> omega))) rfl rfl pre0 rfl rfl ?_
 | refine hq_ 37 (hop_add rfl rfl) rfl rfl pre0 rfl rfl ?_
 refine s0 (hop_build (hs:=[(0,1,_)]) st_93 rfl rfl ⟨rfl,rfl,rfl,rfl,rfl,trivial⟩) ?_
 refine hm_1 8 (hop_alloc (id:=8) (sz:=5) zc_93 rfl rfl omx omx) rfl rfl pre0 rfl rfl (c':=c+20) rfl ?_
 first
 | refine hm_s1 (hol_storeW ty_93 rfl rfl rfl rfl) rfl rfl (pre1 rfl) (c':=c+21) rfl ?_
 | refine hm_s1 (hol_store ty_93 rfl rfl rfl rfl (by first | exact Nat.le_of_ble_eq_true rfl | omega | (dsimp only;omega) | (simp <;> omega)) (by first | exact Nat.le_of_ble_eq_true rfl | omega | (dsimp only;omega) | (simp <;> omega)) (by first | exact Nat.le_of_ble_eq_true rfl | omega | (dsimp only;omega) | (simp <;> omega))) rfl rfl (pre1 rfl) (c':=c+21) rfl ?_
 refine snl h7<|hw_seq fun Nh8 h8=>srg fun N h9=>sm<|sm ?_
 first
 | refine hq_ 41 (hop_len_sl (T:=48) rfl (elOf_spec el_48).1 rfl) rfl rfl pre0 rfl rfl ?_
 | refine hq_ 41 (hop_len_os (T:=48) rfl (elOf_spec el_48).1 rfl) rfl rfl pre0 rfl rfl ?_
 | refine hq_ 41 (hop_len_nil (T:=48) rfl (elOf_spec el_48).1 rfl) rfl rfl pre0 rfl rfl ?_
 refine s0 hqi ?_
 refine sm ?_
 first
 | refine stg 43 (fun hb=>hop_move rfl) rfl rfl rfl rfl rfl ?_
 | refine sth 43 (fun hb=>hop_move rfl) rfl rfl rfl rfl rfl ?_
 first
 | refine stg 43 (fun hb=>hop_move rfl) rfl rfl rfl rfl rfl ?_
 | refine sth 43 (fun hb=>hop_move rfl) rfl rfl rfl rfl rfl ?_
 first
 | refine stg 43 (fun hb=>hop_ia_sl el_48 rfl rfl (by first | exact Nat.le_of_ble_eq_true rfl | (simp at hb;first | omega | (dsimp only;omega) | (simp <;> omega)) | omega | (dsimp only;omega)) (by first | exact Nat.le_of_ble_eq_true rfl | (simp at hb;first | omega | (dsimp only;omega) | (simp <;> omega)) | omega | (dsimp only;omega)) (by first | exact Nat.le_of_ble_eq_true rfl | (simp at hb;first | omega | (dsimp only;omega) | (simp <;> omega)) | omega | (dsimp only;omega))) rfl rfl rfl rfl rfl ?_
 | refine sth 43 (fun hb=>hop_ia_sl el_48 rfl rfl (by first | exact Nat.le_of_ble_eq_true rfl | (simp at hb;first | omega | (dsimp only;omega) | (simp <;> omega)) | omega | (dsimp only;omega)) (by first | exact Nat.le_of_ble_eq_true rfl | (simp at hb;first | omega | (dsimp only;omega) | (simp <;> omega)) | omega | (dsimp only;omega)) (by first | exact Nat.le_of_ble_eq_true rfl | (simp at hb;first | omega | (dsimp only;omega) | (simp <;> omega)) | omega | (dsimp only;omega))) rfl rfl rfl rfl rfl ?_
 | refine hq_g 46 4 43 false _ (fun hb=>hol_ia_os el_48 rfl rfl (by first | exact Nat.le_of_ble_eq_true rfl | (simp at hb;first | omega | (dsimp only;omega) | (simp <;> omega)) | omega | (dsimp only;omega)) (by first | exact Nat.le_of_ble_eq_true rfl | (simp at hb;first | omega | (dsimp only;omega) | (simp <;> omega)) | omega | (dsimp only;omega))) rfl rfl rfl rfl (pre1 rfl) rfl rfl rfl ?_
 | refine hq_g2 46 4 43 _ _ false _ (fun hb=>hol_ia_os el_48 rfl rfl (by first | exact Nat.le_of_ble_eq_true rfl | (simp at hb;first | omega | (dsimp only;omega) | (simp <;> omega)) | omega | (dsimp only;omega)) (by first | exact Nat.le_of_ble_eq_true rfl | (simp at hb;first | omega | (dsimp only;omega) | (simp <;> omega)) | omega | (dsimp only;omega))) rfl rfl rfl rfl (pre1 rfl) rfl rfl rfl ?_
 first
 | refine stg 43 (fun hb=>hop_fa fd_88_0 rfl) rfl rfl rfl rfl rfl ?_
 | refine sth 43 (fun hb=>hop_fa fd_88_0 rfl) rfl rfl rfl rfl rfl ?_
 | refine stg 43 (fun hb=>hop_fa_fp fd_88_0 rfl (by first | exact Nat.le_of_ble_eq_true rfl | (simp at hb;first | omega | (dsimp only;omega) | (simp <;> omega)) | omega | (dsimp only;omega))) rfl rfl rfl rfl rfl ?_
 | refine sth 43 (fun hb=>hop_fa_fp fd_88_0 rfl (by first | exact Nat.le_of_ble_eq_true rfl | (simp at hb;first | omega | (dsimp only;omega) | (simp <;> omega)) | omega | (dsimp only;omega))) rfl rfl rfl rfl rfl ?_
 first
 | refine hq_g 48 4 43 false _ (fun hb=>HOp.val (v':=intV (m.getD i default).at_) (hol_load ty_3 rfl (by first | exact Nat.le_of_ble_eq_true rfl | (simp at hb;first | omega | (dsimp only;omega) | (simp <;> omega)) | omega | (dsimp only;omega)) (by first | exact Nat.le_of_ble_eq_true rfl | (simp at hb;first | omega | (dsimp only;omega) | (simp <;> omega)) | omega | (dsimp only;omega)) (fun h=>(by first | rfl | cases h))) (rfl)) rfl rfl rfl rfl (pre1 rfl) rfl rfl rfl ?_
 | refine hq_g2 48 4 43 _ _ false _ (fun hb=>HOp.val (v':=intV (m.getD i default).at_) (hol_load ty_3 rfl (by first | exact Nat.le_of_ble_eq_true rfl | (simp at hb;first | omega | (dsimp only;omega) | (simp <;> omega)) | omega | (dsimp only;omega)) (by first | exact Nat.le_of_ble_eq_true rfl | (simp at hb;first | omega | (dsimp only;omega) | (simp <;> omega)) | omega | (dsimp only;omega)) (fun h=>(by first | rfl | cases h))) (rfl)) rfl rfl rfl rfl (pre1 rfl) rfl rfl rfl ?_
 | refine stg 43 (fun hb=>HOp.val (v':=intV (m.getD i default).at_) (hop_load_fp ty_3 rfl (by first | exact Nat.le_of_ble_eq_true rfl | (simp at hb;first | omega | (dsimp only;omega) | (simp <;> omega)) | omega | (dsimp only;omega)) (fun h=>(by first | rfl | cases h))) (rfl)) rfl rfl rfl rfl rfl ?_
 | refine sth 43 (fun hb=>HOp.val (v':=intV (m.getD i default).at_) (hop_load_fp ty_3 rfl (by first | exact Nat.le_of_ble_eq_true rfl | (simp at hb;first | omega | (dsimp only;omega) | (simp <;> omega)) | omega | (dsimp only;omega)) (fun h=>(by first | rfl | cases h))) (rfl)) rfl rfl rfl rfl rfl ?_
 first
 | refine stg 43 (fun hb=>hop_move rfl) rfl rfl rfl rfl rfl ?_
 | refine sth 43 (fun hb=>hop_move rfl) rfl rfl rfl rfl rfl ?_
 first
 | refine stg 43 (fun hb=>hop_gtr rfl rfl) rfl rfl rfl rfl rfl ?_
 | refine sth 43 (fun hb=>hop_gtr rfl rfl) rfl rfl rfl rfl rfl ?_
 first
 | refine hq_p 51 (hstep_and _ _ rfl rfl rfl) rfl rfl rfl ?_
 | refine hq_p 51 (hstep_or _ _ rfl rfl rfl) rfl rfl rfl ?_
 | refine hq_p 51 (hstep_ite _ _ _ rfl rfl rfl) rfl rfl rfl ?_
 | refine hq_p 51 (hstep_pick _ _ _ _ rfl rfl rfl (fun _=>.refl _) (fun _=>.refl _)) rfl rfl rfl ?_
 refine nu ?_
 refine h9 _ ?_
 refine wc (fun hc1=>?_) (fun hc1=>?_)
 ·have hr1:=hc1;(try simp only [hcs,Int.reduceToNat] at hc1)
  have e1:tellV m pos side=⟨pos+shiftTo m i,false,false,0,0⟩:=(by unfold tellV tellI;rw [hfi,if_pos om])
  refine srg fun N h10=>?_
  first
  | refine hq_ 52 (hol_load ty_93 rfl (by first | exact Nat.le_of_ble_eq_true rfl | omega | (dsimp only;omega) | (simp <;> omega)) (by first | exact Nat.le_of_ble_eq_true rfl | omega | (dsimp only;omega) | (simp <;> omega)) (fun h=>(by first | rfl | cases h))) rfl rfl (pre1 rfl) rfl rfl ?_
  | refine hq_ 52 (hop_load_fp ty_93 rfl (by first | exact Nat.le_of_ble_eq_true rfl | omega | (dsimp only;omega) | (simp <;> omega)) (fun h=>(by first | rfl | cases h))) rfl rfl pre0 rfl rfl ?_
  first
  | refine hm_s1 (hol_storeW ty_93 rfl rfl rfl rfl) rfl rfl (pre1 rfl) (c':=c+22) rfl ?_
  | refine hm_s1 (hol_store ty_93 rfl rfl rfl rfl (by first | exact Nat.le_of_ble_eq_true rfl | omega | (dsimp only;omega) | (simp <;> omega)) (by first | exact Nat.le_of_ble_eq_true rfl | omega | (dsimp only;omega) | (simp <;> omega)) (by first | exact Nat.le_of_ble_eq_true rfl | omega | (dsimp only;omega) | (simp <;> omega))) rfl rfl (pre1 rfl) (c':=c+22) rfl ?_
  refine snl h10<|hw_ret<|hq_then_ret ?_
  refine hq_ret1 rfl (rvl_cell rfl rfl ty_93 rqc rfl rfl) [] rfl pre0 ?_
  rw [e1];exact fz_plc (by exact j5i rfl rfl rfl rfl rfl)
 have hr1:=hc1;(try simp only [hcs,Int.reduceToNat] at hc1)
 have hlt:i < m.length:=om;have h3:=h1 hlt;have hat:(m.getD i default).at_≤pos:=om;have hen:pos≤(m.getD i default).at_+(m.getD i default).old:=(by rw [decide_eq_true om,Bool.true_and,decide_eq_false_iff_not] at hr0;omega);have e1:tellV m pos side=withinD (m.getD i default) i (shiftTo m i) pos side:=(by unfold tellV tellI;rw [hfi,if_neg om,within_eq _ _ _ _ _ h3.2.1.1 hat hen]);let c0:=c
 refine hw_skip<|h8 _<|srg fun N h11=>sm<|sm ?_
 first
 | refine hq_ 55 (hop_ia_sl el_48 rfl rfl (by first | exact Nat.le_of_ble_eq_true rfl | omega | (dsimp only;omega) | (simp <;> omega)) (by first | exact Nat.le_of_ble_eq_true rfl | omega | (dsimp only;omega) | (simp <;> omega)) (by first | exact Nat.le_of_ble_eq_true rfl | omega | (dsimp only;omega) | (simp <;> omega))) rfl rfl pre0 rfl rfl ?_
 | refine hq_ 55 (hol_ia_os el_48 rfl rfl (by first | exact Nat.le_of_ble_eq_true rfl | omega | (dsimp only;omega) | (simp <;> omega)) (by first | exact Nat.le_of_ble_eq_true rfl | omega | (dsimp only;omega) | (simp <;> omega))) rfl rfl (pre1 rfl) rfl rfl ?_
 first
 | refine hq_ 56 (hol_load ty_88 rfl (by first | exact Nat.le_of_ble_eq_true rfl | omega | (dsimp only;omega) | (simp <;> omega)) (by first | exact Nat.le_of_ble_eq_true rfl | omega | (dsimp only;omega) | (simp <;> omega)) (fun h=>(by first | rfl | cases h))) rfl rfl (pre1 rfl) rfl rfl ?_
 | refine hq_ 56 (hop_load_fp ty_88 rfl (by first | exact Nat.le_of_ble_eq_true rfl | omega | (dsimp only;omega) | (simp <;> omega)) (fun h=>(by first | rfl | cases h))) rfl rfl pre0 rfl rfl ?_
 refine hm_1 9 (hop_alloc (id:=9) (sz:=3) zc_88 rfl rfl omx omx) rfl rfl pre0 rfl rfl (c':=c+22) rfl ?_
 first
 | refine hm_s1 (hol_storeW ty_88 rfl rfl rfl rfl) rfl rfl (pre1 rfl) (c':=c+23) rfl ?_
 | refine hm_s1 (hol_store ty_88 rfl rfl rfl rfl (by first | exact Nat.le_of_ble_eq_true rfl | omega | (dsimp only;omega) | (simp <;> omega)) (by first | exact Nat.le_of_ble_eq_true rfl | omega | (dsimp only;omega) | (simp <;> omega)) (by first | exact Nat.le_of_ble_eq_true rfl | omega | (dsimp only;omega) | (simp <;> omega))) rfl rfl (pre1 rfl) (c':=c+23) rfl ?_
 refine snl h11<|srg fun N h12=>?_
 first
 | refine hq_ 57 (hop_fa fd_88_0 rfl) rfl rfl pre0 rfl rfl ?_
 | refine hq_ 57 (hop_fa_fp fd_88_0 rfl (by first | exact Nat.le_of_ble_eq_true rfl | omega | (dsimp only;omega) | (simp <;> omega))) rfl rfl pre0 rfl rfl ?_
 first
 | refine hq_ 58 (HOp.val (v':=intV (m.getD i default).at_) (hol_load ty_3 rfl (by first | exact Nat.le_of_ble_eq_true rfl | omega | (dsimp only;omega) | (simp <;> omega)) (by first | exact Nat.le_of_ble_eq_true rfl | omega | (dsimp only;omega) | (simp <;> omega)) (fun h=>(by first | rfl | cases h))) (rfl)) rfl rfl (pre1 rfl) rfl rfl ?_
 | refine hq_ 58 (HOp.val (v':=intV (m.getD i default).at_) (hop_load_fp ty_3 rfl (by first | exact Nat.le_of_ble_eq_true rfl | omega | (dsimp only;omega) | (simp <;> omega)) (fun h=>(by first | rfl | cases h))) (rfl)) rfl rfl pre0 rfl rfl ?_
 first
 | refine hq_ 59 (hop_fa fd_88_1 rfl) rfl rfl pre0 rfl rfl ?_
 | refine hq_ 59 (hop_fa_fp fd_88_1 rfl (by first | exact Nat.le_of_ble_eq_true rfl | omega | (dsimp only;omega) | (simp <;> omega))) rfl rfl pre0 rfl rfl ?_
 first
 | refine hq_ 60 (HOp.val (v':=intV (m.getD i default).old) (hol_load ty_3 rfl (by first | exact Nat.le_of_ble_eq_true rfl | omega | (dsimp only;omega) | (simp <;> omega)) (by first | exact Nat.le_of_ble_eq_true rfl | omega | (dsimp only;omega) | (simp <;> omega)) (fun h=>(by first | rfl | cases h))) (rfl)) rfl rfl (pre1 rfl) rfl rfl ?_
 | refine hq_ 60 (HOp.val (v':=intV (m.getD i default).old) (hop_load_fp ty_3 rfl (by first | exact Nat.le_of_ble_eq_true rfl | omega | (dsimp only;omega) | (simp <;> omega)) (fun h=>(by first | rfl | cases h))) (rfl)) rfl rfl pre0 rfl rfl ?_
 first
 | refine hq_ 61 (hop_addi rfl rfl rfl (by first | exact Nat.le_of_ble_eq_true rfl | omega | (dsimp only;omega) | (simp <;> omega)) (by first | exact Nat.le_of_ble_eq_true rfl | omega | (dsimp only;omega) | (simp <;> omega))) rfl rfl pre0 rfl rfl ?_
 | refine hq_ 61 (hop_add rfl rfl) rfl rfl pre0 rfl rfl ?_
 refine sa<|snl h12<|hw_seq fun Nh13 h13=>hd_start ?_
 first
 | refine hd_q 62 (hop_fa fd_88_0 rfl) rfl rfl pre0 rfl rfl (k':=1) rfl ?_
 | refine hd_q 62 (hop_fa_fp fd_88_0 rfl (by first | exact Nat.le_of_ble_eq_true rfl | omega | (dsimp only;omega) | (simp <;> omega))) rfl rfl pre0 rfl rfl (k':=1) rfl ?_
 first
 | refine hd_q 63 (HOp.val (v':=intV (m.getD i default).at_) (hol_load ty_3 rfl (by first | exact Nat.le_of_ble_eq_true rfl | omega | (dsimp only;omega) | (simp <;> omega)) (by first | exact Nat.le_of_ble_eq_true rfl | omega | (dsimp only;omega) | (simp <;> omega)) (fun h=>(by first | rfl | cases h))) (rfl)) rfl rfl (pre1 rfl) rfl rfl (k':=2) rfl ?_
 | refine hd_q 63 (HOp.val (v':=intV (m.getD i default).at_) (hop_load_fp ty_3 rfl (by first | exact Nat.le_of_ble_eq_true rfl | omega | (dsimp only;omega) | (simp <;> omega)) (fun h=>(by first | rfl | cases h))) (rfl)) rfl rfl pre0 rfl rfl (k':=2) rfl ?_
 refine dm 3 ?_
 refine dm 4 ?_
 refine d0 5 (hop_call0 (xs:=[_,_]) (shift23_h m hmr hml i hil) ⟨rfl,⟨rfl,trivial⟩⟩ ⟨fe,⟨fe,trivial⟩⟩) ?_
 first
 | refine hd_q 67 (hop_addi rfl rfl rfl (by first | exact Nat.le_of_ble_eq_true rfl | omega | (dsimp only;omega) | (simp <;> omega)) (by first | exact Nat.le_of_ble_eq_true rfl | omega | (dsimp only;omega) | (simp <;> omega))) rfl rfl pre0 rfl rfl (k':=6) rfl ?_
 | refine hd_q 67 (hop_add rfl rfl) rfl rfl pre0 rfl rfl (k':=6) rfl ?_
 first
 | refine hd_q 68 (hop_fa fd_93_0 rfl) rfl rfl pre0 rfl rfl (k':=7) rfl ?_
 | refine hd_q 68 (hop_fa_fp fd_93_0 rfl (by first | exact Nat.le_of_ble_eq_true rfl | omega | (dsimp only;omega) | (simp <;> omega))) rfl rfl pre0 rfl rfl (k':=7) rfl ?_
 first
 | refine hd_s1 (hol_storeW ty_3 rfl rfl rfl rfl) rfl rfl (pre1 rfl) (k':=8) rfl ?_
 | refine hd_s1 (hol_store ty_3 rfl rfl rfl rfl (by first | exact Nat.le_of_ble_eq_true rfl | omega | (dsimp only;omega) | (simp <;> omega)) (by first | exact Nat.le_of_ble_eq_true rfl | omega | (dsimp only;omega) | (simp <;> omega)) (by first | exact Nat.le_of_ble_eq_true rfl | omega | (dsimp only;omega) | (simp <;> omega))) rfl rfl (pre1 rfl) (k':=8) rfl ?_
 refine hd_nil kr kr (c':=c+31) rfl ?_
 refine h13 _ ?_
 refine hw_joinc (α:=Nat) (fun x c=>⟨137,[(1,.v (intV pos)),(2,.v (intV side)),(6,.v (.pt 6 0 0 0)),(7,.v (intV (i:Int))),(8,.v (.pt 8 (c0+19) 0 0)),(9,.v (.pt 9 (c0+21) 0 0)),(10,.v (intV ((m.getD i default).at_+(m.getD i default).old)))],[(6,plcT 93 0 ⟨0,false,false,0,0⟩),(8,plcT 93 (c0+19) ⟨(m.getD i default).at_+shiftTo m i+(if dspV (m.getD i default) pos side then (m.getD i default).new else 0),false,false,0,0⟩),(9,⟨c0+21,1,3,88,0,fun _=>rgF (m.getD i default)⟩)],c⟩) (fun x=>x=0) (fun NhJ14 hJ14=>?_) (fun u c hx=>?_)
 ·skip
  refine srg fun N h15=>?_
  first
  | refine hq_ 69 (hop_fa fd_88_1 rfl) rfl rfl pre0 rfl rfl ?_
  | refine hq_ 69 (hop_fa_fp fd_88_1 rfl (by first | exact Nat.le_of_ble_eq_true rfl | omega | (dsimp only;omega) | (simp <;> omega))) rfl rfl pre0 rfl rfl ?_
  first
  | refine hq_ 70 (HOp.val (v':=intV (m.getD i default).old) (hol_load ty_3 rfl (by first | exact Nat.le_of_ble_eq_true rfl | omega | (dsimp only;omega) | (simp <;> omega)) (by first | exact Nat.le_of_ble_eq_true rfl | omega | (dsimp only;omega) | (simp <;> omega)) (fun h=>(by first | rfl | cases h))) (rfl)) rfl rfl (pre1 rfl) rfl rfl ?_
  | refine hq_ 70 (HOp.val (v':=intV (m.getD i default).old) (hop_load_fp ty_3 rfl (by first | exact Nat.le_of_ble_eq_true rfl | omega | (dsimp only;omega) | (simp <;> omega)) (fun h=>(by first | rfl | cases h))) (rfl)) rfl rfl pre0 rfl rfl ?_
  refine s0 (hop_gtr rfl rfl) ?_
  refine sm ?_
  first
  | refine stg 72 (fun hb=>hop_move rfl) rfl rfl rfl rfl rfl ?_
  | refine sth 72 (fun hb=>hop_move rfl) rfl rfl rfl rfl rfl ?_
  first
  | refine stg 72 (fun hb=>hop_move rfl) rfl rfl rfl rfl rfl ?_
  | refine sth 72 (fun hb=>hop_move rfl) rfl rfl rfl rfl rfl ?_
  first
  | refine stg 72 (fun hb=>hop_eql rfl rfl) rfl rfl rfl rfl rfl ?_
  | refine sth 72 (fun hb=>hop_eql rfl rfl) rfl rfl rfl rfl rfl ?_
  first
  | refine hq_p 76 (hstep_and _ _ rfl rfl rfl) rfl rfl rfl ?_
  | refine hq_p 76 (hstep_or _ _ rfl rfl rfl) rfl rfl rfl ?_
  | refine hq_p 76 (hstep_ite _ _ _ rfl rfl rfl) rfl rfl rfl ?_
  | refine hq_p 76 (hstep_pick _ _ _ _ rfl rfl rfl (fun _=>.refl _) (fun _=>.refl _)) rfl rfl rfl ?_
  refine sm ?_
  first
  | refine stg 77 (fun hb=>hop_move rfl) rfl rfl rfl rfl rfl ?_
  | refine sth 77 (fun hb=>hop_move rfl) rfl rfl rfl rfl rfl ?_
  first
  | refine stg 77 (fun hb=>hop_fa fd_88_0 rfl) rfl rfl rfl rfl rfl ?_
  | refine sth 77 (fun hb=>hop_fa fd_88_0 rfl) rfl rfl rfl rfl rfl ?_
  | refine stg 77 (fun hb=>hop_fa_fp fd_88_0 rfl (by first | exact Nat.le_of_ble_eq_true rfl | (simp at hb;first | omega | (dsimp only;omega) | (simp <;> omega)) | omega | (dsimp only;omega))) rfl rfl rfl rfl rfl ?_
  | refine sth 77 (fun hb=>hop_fa_fp fd_88_0 rfl (by first | exact Nat.le_of_ble_eq_true rfl | (simp at hb;first | omega | (dsimp only;omega) | (simp <;> omega)) | omega | (dsimp only;omega))) rfl rfl rfl rfl rfl ?_
  first
  | refine hq_g 80 8 77 false _ (fun hb=>HOp.val (v':=intV (m.getD i default).at_) (hol_load ty_3 rfl (by first | exact Nat.le_of_ble_eq_true rfl | (simp at hb;first | omega | (dsimp only;omega) | (simp <;> omega)) | omega | (dsimp only;omega)) (by first | exact Nat.le_of_ble_eq_true rfl | (simp at hb;first | omega | (dsimp only;omega) | (simp <;> omega)) | omega | (dsimp only;omega)) (fun h=>(by first | rfl | cases h))) (rfl)) rfl rfl rfl rfl (pre1 rfl) rfl rfl rfl ?_
  | refine hq_g2 80 8 77 _ _ false _ (fun hb=>HOp.val (v':=intV (m.getD i default).at_) (hol_load ty_3 rfl (by first | exact Nat.le_of_ble_eq_true rfl | (simp at hb;first | omega | (dsimp only;omega) | (simp <;> omega)) | omega | (dsimp only;omega)) (by first | exact Nat.le_of_ble_eq_true rfl | (simp at hb;first | omega | (dsimp only;omega) | (simp <;> omega)) | omega | (dsimp only;omega)) (fun h=>(by first | rfl | cases h))) (rfl)) rfl rfl rfl rfl (pre1 rfl) rfl rfl rfl ?_
  | refine stg 77 (fun hb=>HOp.val (v':=intV (m.getD i default).at_) (hop_load_fp ty_3 rfl (by first | exact Nat.le_of_ble_eq_true rfl | (simp at hb;first | omega | (dsimp only;omega) | (simp <;> omega)) | omega | (dsimp only;omega)) (fun h=>(by first | rfl | cases h))) (rfl)) rfl rfl rfl rfl rfl ?_
  | refine sth 77 (fun hb=>HOp.val (v':=intV (m.getD i default).at_) (hop_load_fp ty_3 rfl (by first | exact Nat.le_of_ble_eq_true rfl | (simp at hb;first | omega | (dsimp only;omega) | (simp <;> omega)) | omega | (dsimp only;omega)) (fun h=>(by first | rfl | cases h))) (rfl)) rfl rfl rfl rfl rfl ?_
  first
  | refine stg 77 (fun hb=>hop_neq rfl rfl) rfl rfl rfl rfl rfl ?_
  | refine sth 77 (fun hb=>hop_neq rfl rfl) rfl rfl rfl rfl rfl ?_
  first
  | refine stg 77 (fun hb=>hop_move rfl) rfl rfl rfl rfl rfl ?_
  | refine sth 77 (fun hb=>hop_move rfl) rfl rfl rfl rfl rfl ?_
  first
  | refine stg 82 (fun hb=>hop_move rfl) rfl rfl rfl rfl rfl ?_
  | refine hq_g3 83 13 82 77 false true _ _ (fun hb hb2=>hop_move rfl) rfl rfl rfl rfl rfl pre0 rfl rfl rfl ?_
  | refine sth 82 (fun hb=>hop_move rfl) rfl rfl rfl rfl rfl ?_
  first
  | refine stg 82 (fun hb=>hop_geq rfl rfl) rfl rfl rfl rfl rfl ?_
  | refine hq_g3 84 13 82 77 false true _ _ (fun hb hb2=>hop_geq rfl rfl) rfl rfl rfl rfl rfl pre0 rfl rfl rfl ?_
  | refine sth 82 (fun hb=>hop_geq rfl rfl) rfl rfl rfl rfl rfl ?_
  first
  | refine hq_pg 85 (hstep_andg (gi:=8) (j:=77) _ _ rfl rfl rfl rfl) rfl rfl rfl rfl ?_
  | refine hq_pg 85 (hstep_org (gi:=8) (j:=77) _ _ rfl rfl rfl rfl) rfl rfl rfl rfl ?_
  | refine hq_pg 85 (hstep_pickg (gi:=8) (j:=77) _ _ _ _ rfl rfl rfl rfl (fun _=>.refl _) (fun _=>.refl _)) rfl rfl rfl rfl ?_
  first
  | refine hq_p 86 (hstep_and _ _ rfl rfl rfl) rfl rfl rfl ?_
  | refine hq_p 86 (hstep_or _ _ rfl rfl rfl) rfl rfl rfl ?_
  | refine hq_p 86 (hstep_ite _ _ _ rfl rfl rfl) rfl rfl rfl ?_
  | refine hq_p 86 (hstep_pick _ _ _ _ rfl rfl rfl (fun _=>.refl _) (fun _=>.refl _)) rfl rfl rfl ?_
  refine sm ?_
  first
  | refine stg 87 (fun hb=>hop_fa fd_88_1 rfl) rfl rfl rfl rfl rfl ?_
  | refine sth 87 (fun hb=>hop_fa fd_88_1 rfl) rfl rfl rfl rfl rfl ?_
  | refine stg 87 (fun hb=>hop_fa_fp fd_88_1 rfl (by first | exact Nat.le_of_ble_eq_true rfl | (simp at hb;first | omega | (dsimp only;omega) | (simp <;> omega)) | omega | (dsimp only;omega))) rfl rfl rfl rfl rfl ?_
  | refine sth 87 (fun hb=>hop_fa_fp fd_88_1 rfl (by first | exact Nat.le_of_ble_eq_true rfl | (simp at hb;first | omega | (dsimp only;omega) | (simp <;> omega)) | omega | (dsimp only;omega))) rfl rfl rfl rfl rfl ?_
  first
  | refine hq_g 89 18 87 false _ (fun hb=>HOp.val (v':=intV (m.getD i default).old) (hol_load ty_3 rfl (by first | exact Nat.le_of_ble_eq_true rfl | (simp at hb;first | omega | (dsimp only;omega) | (simp <;> omega)) | omega | (dsimp only;omega)) (by first | exact Nat.le_of_ble_eq_true rfl | (simp at hb;first | omega | (dsimp only;omega) | (simp <;> omega)) | omega | (dsimp only;omega)) (fun h=>(by first | rfl | cases h))) (rfl)) rfl rfl rfl rfl (pre1 rfl) rfl rfl rfl ?_
  | refine hq_g2 89 18 87 _ _ false _ (fun hb=>HOp.val (v':=intV (m.getD i default).old) (hol_load ty_3 rfl (by first | exact Nat.le_of_ble_eq_true rfl | (simp at hb;first | omega | (dsimp only;omega) | (simp <;> omega)) | omega | (dsimp only;omega)) (by first | exact Nat.le_of_ble_eq_true rfl | (simp at hb;first | omega | (dsimp only;omega) | (simp <;> omega)) | omega | (dsimp only;omega)) (fun h=>(by first | rfl | cases h))) (rfl)) rfl rfl rfl rfl (pre1 rfl) rfl rfl rfl ?_
  | refine stg 87 (fun hb=>HOp.val (v':=intV (m.getD i default).old) (hop_load_fp ty_3 rfl (by first | exact Nat.le_of_ble_eq_true rfl | (simp at hb;first | omega | (dsimp only;omega) | (simp <;> omega)) | omega | (dsimp only;omega)) (fun h=>(by first | rfl | cases h))) (rfl)) rfl rfl rfl rfl rfl ?_
  | refine sth 87 (fun hb=>HOp.val (v':=intV (m.getD i default).old) (hop_load_fp ty_3 rfl (by first | exact Nat.le_of_ble_eq_true rfl | (simp at hb;first | omega | (dsimp only;omega) | (simp <;> omega)) | omega | (dsimp only;omega)) (fun h=>(by first | rfl | cases h))) (rfl)) rfl rfl rfl rfl rfl ?_
  first
  | refine stg 87 (fun hb=>hop_eql rfl rfl) rfl rfl rfl rfl rfl ?_
  | refine sth 87 (fun hb=>hop_eql rfl rfl) rfl rfl rfl rfl rfl ?_
  first
  | refine stg 87 (fun hb=>hop_move rfl) rfl rfl rfl rfl rfl ?_
  | refine sth 87 (fun hb=>hop_move rfl) rfl rfl rfl rfl rfl ?_
  first
  | refine stg 91 (fun hb=>hop_move rfl) rfl rfl rfl rfl rfl ?_
  | refine hq_g3 92 22 91 87 false true _ _ (fun hb hb2=>hop_move rfl) rfl rfl rfl rfl rfl pre0 rfl rfl rfl ?_
  | refine sth 91 (fun hb=>hop_move rfl) rfl rfl rfl rfl rfl ?_
  first
  | refine stg 91 (fun hb=>hop_geq rfl rfl) rfl rfl rfl rfl rfl ?_
  | refine hq_g3 93 22 91 87 false true _ _ (fun hb hb2=>hop_geq rfl rfl) rfl rfl rfl rfl rfl pre0 rfl rfl rfl ?_
  | refine sth 91 (fun hb=>hop_geq rfl rfl) rfl rfl rfl rfl rfl ?_
  first
  | refine hq_pg 94 (hstep_andg (gi:=18) (j:=87) _ _ rfl rfl rfl rfl) rfl rfl rfl rfl ?_
  | refine hq_pg 94 (hstep_org (gi:=18) (j:=87) _ _ rfl rfl rfl rfl) rfl rfl rfl rfl ?_
  | refine hq_pg 94 (hstep_pickg (gi:=18) (j:=87) _ _ _ _ rfl rfl rfl rfl (fun _=>.refl _) (fun _=>.refl _)) rfl rfl rfl rfl ?_
  first
  | refine hq_p 95 (hstep_and _ _ rfl rfl rfl) rfl rfl rfl ?_
  | refine hq_p 95 (hstep_or _ _ rfl rfl rfl) rfl rfl rfl ?_
  | refine hq_p 95 (hstep_ite _ _ _ rfl rfl rfl) rfl rfl rfl ?_
  | refine hq_p 95 (hstep_pick _ _ _ _ rfl rfl rfl (fun _=>.refl _) (fun _=>.refl _)) rfl rfl rfl ?_
  refine nu ?_
  refine h15 _ ?_
  refine wc (fun hc2=>?_) (fun hc2=>?_)
  ·have hr2:=hc2;(try simp only [hcs,Int.reduceToNat] at hc2)
   have hds:dspV (m.getD i default) pos side:=(by unfold dspV;omega)
   refine hw_region ?_
   first
   | refine hq_ 96 (hop_fa fd_93_0 rfl) rfl rfl pre0 rfl rfl ?_
   | refine hq_ 96 (hop_fa_fp fd_93_0 rfl (by first | exact Nat.le_of_ble_eq_true rfl | omega | (dsimp only;omega) | (simp <;> omega))) rfl rfl pre0 rfl rfl ?_
   first
   | refine hq_ 97 (hol_load ty_3 rfl (by first | exact Nat.le_of_ble_eq_true rfl | omega | (dsimp only;omega) | (simp <;> omega)) (by first | exact Nat.le_of_ble_eq_true rfl | omega | (dsimp only;omega) | (simp <;> omega)) (fun h=>(by first | rfl | cases h))) rfl rfl (pre1 rfl) rfl rfl ?_
   | refine hq_ 97 (hop_load_fp ty_3 rfl (by first | exact Nat.le_of_ble_eq_true rfl | omega | (dsimp only;omega) | (simp <;> omega)) (fun h=>(by first | rfl | cases h))) rfl rfl pre0 rfl rfl ?_
   first
   | refine hq_ 98 (hop_fa fd_88_2 rfl) rfl rfl pre0 rfl rfl ?_
   | refine hq_ 98 (hop_fa_fp fd_88_2 rfl (by first | exact Nat.le_of_ble_eq_true rfl | omega | (dsimp only;omega) | (simp <;> omega))) rfl rfl pre0 rfl rfl ?_
   first
   | refine hq_ 99 (HOp.val (v':=intV (m.getD i default).new) (hol_load ty_3 rfl (by first | exact Nat.le_of_ble_eq_true rfl | omega | (dsimp only;omega) | (simp <;> omega)) (by first | exact Nat.le_of_ble_eq_true rfl | omega | (dsimp only;omega) | (simp <;> omega)) (fun h=>(by first | rfl | cases h))) (rfl)) rfl rfl (pre1 rfl) rfl rfl ?_
   | refine hq_ 99 (HOp.val (v':=intV (m.getD i default).new) (hop_load_fp ty_3 rfl (by first | exact Nat.le_of_ble_eq_true rfl | omega | (dsimp only;omega) | (simp <;> omega)) (fun h=>(by first | rfl | cases h))) (rfl)) rfl rfl pre0 rfl rfl ?_
   first
   | refine hq_ 100 (hop_addi rfl rfl rfl (by first | exact Nat.le_of_ble_eq_true rfl | omega | (dsimp only;omega) | (simp <;> omega)) (by first | exact Nat.le_of_ble_eq_true rfl | omega | (dsimp only;omega) | (simp <;> omega))) rfl rfl pre0 rfl rfl ?_
   | refine hq_ 100 (hop_add rfl rfl) rfl rfl pre0 rfl rfl ?_
   first
   | refine hq_ 101 (hop_fa fd_93_0 rfl) rfl rfl pre0 rfl rfl ?_
   | refine hq_ 101 (hop_fa_fp fd_93_0 rfl (by first | exact Nat.le_of_ble_eq_true rfl | omega | (dsimp only;omega) | (simp <;> omega))) rfl rfl pre0 rfl rfl ?_
   first
   | refine hm_s1 (hol_storeW ty_3 rfl rfl rfl rfl) rfl rfl (pre1 rfl) (c':=c+32) rfl ?_
   | refine hm_s1 (hol_store ty_3 rfl rfl rfl rfl (by first | exact Nat.le_of_ble_eq_true rfl | omega | (dsimp only;omega) | (simp <;> omega)) (by first | exact Nat.le_of_ble_eq_true rfl | omega | (dsimp only;omega) | (simp <;> omega)) (by first | exact Nat.le_of_ble_eq_true rfl | omega | (dsimp only;omega) | (simp <;> omega))) rfl rfl (pre1 rfl) (c':=c+32) rfl ?_
   refine hseq_nil ?_
   exact hJ14 (0) _ _ (by (try dsimp only);skip) (hsub_of rfl (Nat.le_refl _) tsa (hsr rfl (HpSub.cons rfl (osub_plcT (by exact j5i (show intV ((m.getD i default).at_+shiftTo m i+(m.getD i default).new)=intV ((m.getD i default).at_+shiftTo m i+(if dspV (m.getD i default) pos side then (m.getD i default).new else 0)) by rw [if_pos hds]) rfl rfl rfl rfl)) (HpSub.cons rfl (OSub.of fun p q hp hq=>.refl _) HpSub.nil))))
  have hr2:=hc2;(try simp only [hcs,Int.reduceToNat] at hc2)
  have hds:¬ dspV (m.getD i default) pos side:=(by intro h;obtain ⟨⟨a1,a2⟩,a3⟩:=hc2;unfold dspV at h;rcases h with ⟨h1,h2⟩ | ⟨h1,h2⟩ | ⟨h1,h2⟩;(rw [decide_eq_true h1,h2] at a1;simp at a1);(rw [decide_eq_true h2] at a2;simp at a2;exact h1 a2);(rw [h1,decide_eq_true h2] at a3;simp at a3))
  refine hw_skip ?_
  exact hJ14 (0) _ _ (by (try dsimp only);skip) (hsub_of rfl (Nat.le_refl _) tsa (hsr rfl (HpSub.cons rfl (osub_plcT (by exact j5i (show intV ((m.getD i default).at_+shiftTo m i)=intV ((m.getD i default).at_+shiftTo m i+(if dspV (m.getD i default) pos side then (m.getD i default).new else 0)) by rw [if_neg hds,Int.add_zero]) rfl rfl rfl rfl)) (HpSub.cons rfl (OSub.of fun p q hp hq=>.refl _) HpSub.nil))))
 ·skip
  (try dsimp only at hx ⊢)
  refine srg fun N h16=>sm ?_
  first
  | refine hq_ 103 (hop_fa fd_88_0 rfl) rfl rfl pre0 rfl rfl ?_
  | refine hq_ 103 (hop_fa_fp fd_88_0 rfl (by first | exact Nat.le_of_ble_eq_true rfl | omega | (dsimp only;omega) | (simp <;> omega))) rfl rfl pre0 rfl rfl ?_
  first
  | refine hq_ 104 (HOp.val (v':=intV (m.getD i default).at_) (hol_load ty_3 rfl (by first | exact Nat.le_of_ble_eq_true rfl | omega | (dsimp only;omega) | (simp <;> omega)) (by first | exact Nat.le_of_ble_eq_true rfl | omega | (dsimp only;omega) | (simp <;> omega)) (fun h=>(by first | rfl | cases h))) (rfl)) rfl rfl (pre1 rfl) rfl rfl ?_
  | refine hq_ 104 (HOp.val (v':=intV (m.getD i default).at_) (hop_load_fp ty_3 rfl (by first | exact Nat.le_of_ble_eq_true rfl | omega | (dsimp only;omega) | (simp <;> omega)) (fun h=>(by first | rfl | cases h))) (rfl)) rfl rfl pre0 rfl rfl ?_
  refine s0 (hop_gtr rfl rfl) ?_
  refine sm ?_
  first
  | refine stg 106 (fun hb=>hop_move rfl) rfl rfl rfl rfl rfl ?_
  | refine sth 106 (fun hb=>hop_move rfl) rfl rfl rfl rfl rfl ?_
  first
  | refine stg 106 (fun hb=>hop_move rfl) rfl rfl rfl rfl rfl ?_
  | refine sth 106 (fun hb=>hop_move rfl) rfl rfl rfl rfl rfl ?_
  first
  | refine stg 106 (fun hb=>hop_lss rfl rfl) rfl rfl rfl rfl rfl ?_
  | refine sth 106 (fun hb=>hop_lss rfl rfl) rfl rfl rfl rfl rfl ?_
  first
  | refine hq_p 110 (hstep_and _ _ rfl rfl rfl) rfl rfl rfl ?_
  | refine hq_p 110 (hstep_or _ _ rfl rfl rfl) rfl rfl rfl ?_
  | refine hq_p 110 (hstep_ite _ _ _ rfl rfl rfl) rfl rfl rfl ?_
  | refine hq_p 110 (hstep_pick _ _ _ _ rfl rfl rfl (fun _=>.refl _) (fun _=>.refl _)) rfl rfl rfl ?_
  first
  | refine hq_ 111 (hop_fa fd_93_2 rfl) rfl rfl pre0 rfl rfl ?_
  | refine hq_ 111 (hop_fa_fp fd_93_2 rfl (by first | exact Nat.le_of_ble_eq_true rfl | omega | (dsimp only;omega) | (simp <;> omega))) rfl rfl pre0 rfl rfl ?_
  first
  | refine hm_s1 (hol_storeW ty_4 rfl rfl rfl rfl) rfl rfl (pre1 rfl) (c':=c+1) rfl ?_
  | refine hm_s1 (hol_store ty_4 rfl rfl rfl rfl (by first | exact Nat.le_of_ble_eq_true rfl | omega | (dsimp only;omega) | (simp <;> omega)) (by first | exact Nat.le_of_ble_eq_true rfl | omega | (dsimp only;omega) | (simp <;> omega)) (by first | exact Nat.le_of_ble_eq_true rfl | omega | (dsimp only;omega) | (simp <;> omega))) rfl rfl (pre1 rfl) (c':=c+1) rfl ?_
  refine nu ?_
  refine h16 _<|srg fun N h17=>sm<|sa<|snl h17 ?_
  refine hw_joinc (α:=Nat) (fun x c=>⟨137,[(1,.v (intV pos)),(6,.v (.pt 6 0 0 0)),(7,.v (intV (i:Int))),(8,.v (.pt 8 (c0+19) 0 0)),(9,.v (.pt 9 (c0+21) 0 0)),(10,.v (intV ((m.getD i default).at_+(m.getD i default).old))),(11,.v (intV (dtkV pos side)))],[(6,plcT 93 0 ⟨0,false,false,0,0⟩),(8,plcT 93 (c0+19) ⟨(m.getD i default).at_+shiftTo m i+(if dspV (m.getD i default) pos side then (m.getD i default).new else 0),false,insV (m.getD i default) pos,0,0⟩),(9,⟨c0+21,1,3,88,0,fun _=>rgF (m.getD i default)⟩)],c⟩) (fun x=>x=0) (fun NhJ18 hJ18=>?_) (fun u c hx=>?_)
  ·skip
   refine srg fun N h19=>sm ?_
   refine s0 hli ?_
   refine snl h19 ?_
   refine wc (fun hc3=>?_) (fun hc3=>?_)
   ·have hr3:=hc3;(try simp only [hcs,Int.reduceToNat] at hc3)
    refine hw_region<|sm ?_
    first
    | refine hq_ 116 (hop_subi rfl rfl rfl (by first | exact Nat.le_of_ble_eq_true rfl | omega | (dsimp only;omega) | (simp <;> omega)) (by first | exact Nat.le_of_ble_eq_true rfl | omega | (dsimp only;omega) | (simp <;> omega))) rfl rfl pre0 rfl rfl ?_
    | refine hq_ 116 (hop_sub rfl rfl) rfl rfl pre0 rfl rfl ?_
    refine sa<|hseq_nil ?_
    exact hJ18 (0) _ _ (by (try dsimp only);skip) (hsub_of rfl (Nat.le_refl _) (tsr rfl (tsr rfl (tsr rfl (tsr rfl (tsr rfl (tsr rfl (TmSub.cons rfl (by unfold dtkV;rw [if_pos hc3];exact .refl _) TmSub.nil))))))) (hsr rfl (HpSub.cons rfl (osub_plcT (by exact j5i rfl rfl rfl rfl rfl)) hsa)))
   have hr3:=hc3;(try simp only [hcs,Int.reduceToNat] at hc3)
   refine hw_skip ?_
   exact hJ18 (0) _ _ (by (try dsimp only);skip) (hsub_of rfl (Nat.le_refl _) (tsr rfl (tsr rfl (tsr rfl (tsr rfl (tsr rfl (tsr rfl (TmSub.cons rfl (by unfold dtkV;rw [if_neg hc3];exact .refl _) TmSub.nil))))))) (hsr rfl (HpSub.cons rfl (osub_plcT (by exact j5i rfl rfl rfl rfl rfl)) hsa)))
  ·skip
   (try dsimp only at hx ⊢)
   refine srg fun N h20=>sm ?_
   first
   | refine hq_ 118 (hop_fa fd_88_0 rfl) rfl rfl pre0 rfl rfl ?_
   | refine hq_ 118 (hop_fa_fp fd_88_0 rfl (by first | exact Nat.le_of_ble_eq_true rfl | omega | (dsimp only;omega) | (simp <;> omega))) rfl rfl pre0 rfl rfl ?_
   first
   | refine hq_ 119 (HOp.val (v':=intV (m.getD i default).at_) (hol_load ty_3 rfl (by first | exact Nat.le_of_ble_eq_true rfl | omega | (dsimp only;omega) | (simp <;> omega)) (by first | exact Nat.le_of_ble_eq_true rfl | omega | (dsimp only;omega) | (simp <;> omega)) (fun h=>(by first | rfl | cases h))) (rfl)) rfl rfl (pre1 rfl) rfl rfl ?_
   | refine hq_ 119 (HOp.val (v':=intV (m.getD i default).at_) (hop_load_fp ty_3 rfl (by first | exact Nat.le_of_ble_eq_true rfl | omega | (dsimp only;omega) | (simp <;> omega)) (fun h=>(by first | rfl | cases h))) (rfl)) rfl rfl pre0 rfl rfl ?_
   refine s0 (hop_geq rfl rfl) ?_
   refine sm ?_
   first
   | refine stg 121 (fun hb=>hop_move rfl) rfl rfl rfl rfl rfl ?_
   | refine sth 121 (fun hb=>hop_move rfl) rfl rfl rfl rfl rfl ?_
   first
   | refine stg 121 (fun hb=>hop_move rfl) rfl rfl rfl rfl rfl ?_
   | refine sth 121 (fun hb=>hop_move rfl) rfl rfl rfl rfl rfl ?_
   first
   | refine stg 121 (fun hb=>hop_lss rfl rfl) rfl rfl rfl rfl rfl ?_
   | refine sth 121 (fun hb=>hop_lss rfl rfl) rfl rfl rfl rfl rfl ?_
   first
   | refine hq_p 125 (hstep_and _ _ rfl rfl rfl) rfl rfl rfl ?_
   | refine hq_p 125 (hstep_or _ _ rfl rfl rfl) rfl rfl rfl ?_
   | refine hq_p 125 (hstep_ite _ _ _ rfl rfl rfl) rfl rfl rfl ?_
   | refine hq_p 125 (hstep_pick _ _ _ _ rfl rfl rfl (fun _=>.refl _) (fun _=>.refl _)) rfl rfl rfl ?_
   first
   | refine hq_ 126 (hop_fa fd_93_1 rfl) rfl rfl pre0 rfl rfl ?_
   | refine hq_ 126 (hop_fa_fp fd_93_1 rfl (by first | exact Nat.le_of_ble_eq_true rfl | omega | (dsimp only;omega) | (simp <;> omega))) rfl rfl pre0 rfl rfl ?_
   first
   | refine hm_s1 (hol_storeW ty_4 rfl rfl rfl rfl) rfl rfl (pre1 rfl) (c':=c+1) rfl ?_
   | refine hm_s1 (hol_store ty_4 rfl rfl rfl rfl (by first | exact Nat.le_of_ble_eq_true rfl | omega | (dsimp only;omega) | (simp <;> omega)) (by first | exact Nat.le_of_ble_eq_true rfl | omega | (dsimp only;omega) | (simp <;> omega)) (by first | exact Nat.le_of_ble_eq_true rfl | omega | (dsimp only;omega) | (simp <;> omega))) rfl rfl (pre1 rfl) (c':=c+1) rfl ?_
   refine nu ?_
   refine h20 _<|hw_seq fun Nh21 h21=>srg fun N h22=>?_
   first
   | refine hq_ 127 (hop_fa fd_93_1 rfl) rfl rfl pre0 rfl rfl ?_
   | refine hq_ 127 (hop_fa_fp fd_93_1 rfl (by first | exact Nat.le_of_ble_eq_true rfl | omega | (dsimp only;omega) | (simp <;> omega))) rfl rfl pre0 rfl rfl ?_
   first
   | refine hq_ 128 (HOp.val (v':=boolV (dgnV (m.getD i default) pos side)) (hol_load ty_4 rfl (by first | exact Nat.le_of_ble_eq_true rfl | omega | (dsimp only;omega) | (simp <;> omega)) (by first | exact Nat.le_of_ble_eq_true rfl | omega | (dsimp only;omega) | (simp <;> omega)) (fun h=>(by first | rfl | cases h))) (rfl)) rfl rfl (pre1 rfl) rfl rfl ?_
   | refine hq_ 128 (HOp.val (v':=boolV (dgnV (m.getD i default) pos side)) (hop_load_fp ty_4 rfl (by first | exact Nat.le_of_ble_eq_true rfl | omega | (dsimp only;omega) | (simp <;> omega)) (fun h=>(by first | rfl | cases h))) (rfl)) rfl rfl pre0 rfl rfl ?_
   refine snl h22 ?_
   refine wc (fun hc4=>?_) (fun hc4=>?_)
   ·have hr4:=hc4;(try simp only [hcs,Int.reduceToNat] at hc4)
    refine srg fun N h23=>sm ?_
    first
    | refine hq_ 130 (hop_fa fd_93_3 rfl) rfl rfl pre0 rfl rfl ?_
    | refine hq_ 130 (hop_fa_fp fd_93_3 rfl (by first | exact Nat.le_of_ble_eq_true rfl | omega | (dsimp only;omega) | (simp <;> omega))) rfl rfl pre0 rfl rfl ?_
    first
    | refine hm_s1 (hol_storeW ty_3 rfl rfl rfl rfl) rfl rfl (pre1 rfl) (c':=c+2) rfl ?_
    | refine hm_s1 (hol_store ty_3 rfl rfl rfl rfl (by first | exact Nat.le_of_ble_eq_true rfl | omega | (dsimp only;omega) | (simp <;> omega)) (by first | exact Nat.le_of_ble_eq_true rfl | omega | (dsimp only;omega) | (simp <;> omega)) (by first | exact Nat.le_of_ble_eq_true rfl | omega | (dsimp only;omega) | (simp <;> omega))) rfl rfl (pre1 rfl) (c':=c+2) rfl ?_
    refine snl h23<|hw_region<|sm ?_
    first
    | refine hq_ 132 (hop_fa fd_88_0 rfl) rfl rfl pre0 rfl rfl ?_
    | refine hq_ 132 (hop_fa_fp fd_88_0 rfl (by first | exact Nat.le_of_ble_eq_true rfl | omega | (dsimp only;omega) | (simp <;> omega))) rfl rfl pre0 rfl rfl ?_
    first
    | refine hq_ 133 (HOp.val (v':=intV (m.getD i default).at_) (hol_load ty_3 rfl (by first | exact Nat.le_of_ble_eq_true rfl | omega | (dsimp only;omega) | (simp <;> omega)) (by first | exact Nat.le_of_ble_eq_true rfl | omega | (dsimp only;omega) | (simp <;> omega)) (fun h=>(by first | rfl | cases h))) (rfl)) rfl rfl (pre1 rfl) rfl rfl ?_
    | refine hq_ 133 (HOp.val (v':=intV (m.getD i default).at_) (hop_load_fp ty_3 rfl (by first | exact Nat.le_of_ble_eq_true rfl | omega | (dsimp only;omega) | (simp <;> omega)) (fun h=>(by first | rfl | cases h))) (rfl)) rfl rfl pre0 rfl rfl ?_
    first
    | refine hq_ 134 (hop_subi rfl rfl rfl (by first | exact Nat.le_of_ble_eq_true rfl | omega | (dsimp only;omega) | (simp <;> omega)) (by first | exact Nat.le_of_ble_eq_true rfl | omega | (dsimp only;omega) | (simp <;> omega))) rfl rfl pre0 rfl rfl ?_
    | refine hq_ 134 (hop_sub rfl rfl) rfl rfl pre0 rfl rfl ?_
    first
    | refine hq_ 135 (hop_fa fd_93_4 rfl) rfl rfl pre0 rfl rfl ?_
    | refine hq_ 135 (hop_fa_fp fd_93_4 rfl (by first | exact Nat.le_of_ble_eq_true rfl | omega | (dsimp only;omega) | (simp <;> omega))) rfl rfl pre0 rfl rfl ?_
    first
    | refine hm_s1 (hol_storeW ty_3 rfl rfl rfl rfl) rfl rfl (pre1 rfl) (c':=c+3) rfl ?_
    | refine hm_s1 (hol_store ty_3 rfl rfl rfl rfl (by first | exact Nat.le_of_ble_eq_true rfl | omega | (dsimp only;omega) | (simp <;> omega)) (by first | exact Nat.le_of_ble_eq_true rfl | omega | (dsimp only;omega) | (simp <;> omega)) (by first | exact Nat.le_of_ble_eq_true rfl | omega | (dsimp only;omega) | (simp <;> omega))) rfl rfl (pre1 rfl) (c':=c+3) rfl ?_
    refine snl h21<|srg fun N h24=>?_
    first
    | refine hq_ 136 (hol_load ty_93 rfl (by first | exact Nat.le_of_ble_eq_true rfl | omega | (dsimp only;omega) | (simp <;> omega)) (by first | exact Nat.le_of_ble_eq_true rfl | omega | (dsimp only;omega) | (simp <;> omega)) (fun h=>(by first | rfl | cases h))) rfl rfl (pre1 rfl) rfl rfl ?_
    | refine hq_ 136 (hop_load_fp ty_93 rfl (by first | exact Nat.le_of_ble_eq_true rfl | omega | (dsimp only;omega) | (simp <;> omega)) (fun h=>(by first | rfl | cases h))) rfl rfl pre0 rfl rfl ?_
    first
    | refine hm_s1 (hol_storeW ty_93 rfl rfl rfl rfl) rfl rfl (pre1 rfl) (c':=c+4) rfl ?_
    | refine hm_s1 (hol_store ty_93 rfl rfl rfl rfl (by first | exact Nat.le_of_ble_eq_true rfl | omega | (dsimp only;omega) | (simp <;> omega)) (by first | exact Nat.le_of_ble_eq_true rfl | omega | (dsimp only;omega) | (simp <;> omega)) (by first | exact Nat.le_of_ble_eq_true rfl | omega | (dsimp only;omega) | (simp <;> omega))) rfl rfl (pre1 rfl) (c':=c+4) rfl ?_
    refine snl h24<|hw_ret ?_
    refine hq_ret1 rfl (rvl_cell rfl rfl ty_93 rqc rfl rfl) [] rfl pre0 ?_
    rw [e1,withinD_eq];exact fz_plc (by exact j5i rfl rfl rfl (show intV (i:Int)=intV (if dgnV (m.getD i default) pos side=true then (i:Int) else 0) by rw [if_pos hc4]) (show intV (pos - (m.getD i default).at_)=intV (if dgnV (m.getD i default) pos side=true then pos - (m.getD i default).at_ else 0) by rw [if_pos hc4]))
   have hr4:=hc4;(try simp only [hcs,Int.reduceToNat] at hc4)
   refine hw_skip<|h21 _<|srg fun N h25=>?_
   first
   | refine hq_ 136 (hol_load ty_93 rfl (by first | exact Nat.le_of_ble_eq_true rfl | omega | (dsimp only;omega) | (simp <;> omega)) (by first | exact Nat.le_of_ble_eq_true rfl | omega | (dsimp only;omega) | (simp <;> omega)) (fun h=>(by first | rfl | cases h))) rfl rfl (pre1 rfl) rfl rfl ?_
   | refine hq_ 136 (hop_load_fp ty_93 rfl (by first | exact Nat.le_of_ble_eq_true rfl | omega | (dsimp only;omega) | (simp <;> omega)) (fun h=>(by first | rfl | cases h))) rfl rfl pre0 rfl rfl ?_
   first
   | refine hm_s1 (hol_storeW ty_93 rfl rfl rfl rfl) rfl rfl (pre1 rfl) (c':=c+2) rfl ?_
   | refine hm_s1 (hol_store ty_93 rfl rfl rfl rfl (by first | exact Nat.le_of_ble_eq_true rfl | omega | (dsimp only;omega) | (simp <;> omega)) (by first | exact Nat.le_of_ble_eq_true rfl | omega | (dsimp only;omega) | (simp <;> omega)) (by first | exact Nat.le_of_ble_eq_true rfl | omega | (dsimp only;omega) | (simp <;> omega))) rfl rfl (pre1 rfl) (c':=c+2) rfl ?_
   refine snl h25<|hw_ret ?_
   refine hq_ret1 rfl (rvl_cell rfl rfl ty_93 rqc rfl rfl) [] rfl pre0 ?_
   rw [e1,withinD_eq];exact fz_plc (by exact j5i rfl rfl rfl (show intV 0=intV (if dgnV (m.getD i default) pos side=true then (i:Int) else 0) by rw [if_neg (by rw [hc4];decide)]) (show intV 0=intV (if dgnV (m.getD i default) pos side=true then pos - (m.getD i default).at_ else 0) by rw [if_neg (by rw [hc4];decide)]))
theorem recover23_h (m:List Rg) (a off:Int) (hoff:off≤1099511627776):HPure Try.prog 61 [rgsV m,intV a,intV off] (intV ((recV m a off).getD (-1))):=by
 refine hpure_of Try.func61 rfl kr _ _ _ rfl 44 rfl rfl (fun w F=>?_)
 refine srg fun N h1=>sa<|snl h1<|hw_seq fun Nh2 h2=>srg fun N h3=>sm ?_
 refine s0 (hop_call0 (xs:=[_]) (right23_h m) ⟨rfl,trivial⟩ ⟨fe,trivial⟩) ?_
 refine s0 (hop_not rfl) ?_
 refine sm ?_
 first
 | refine stg 10 (fun hb=>hop_move rfl) rfl rfl rfl rfl rfl ?_
 | refine sth 10 (fun hb=>hop_move rfl) rfl rfl rfl rfl rfl ?_
 first
 | refine stg 10 (fun hb=>hop_lss rfl rfl) rfl rfl rfl rfl rfl ?_
 | refine sth 10 (fun hb=>hop_lss rfl rfl) rfl rfl rfl rfl rfl ?_
 first
 | refine hq_p 13 (hstep_and _ _ rfl rfl rfl) rfl rfl rfl ?_
 | refine hq_p 13 (hstep_or _ _ rfl rfl rfl) rfl rfl rfl ?_
 | refine hq_p 13 (hstep_ite _ _ _ rfl rfl rfl) rfl rfl rfl ?_
 | refine hq_p 13 (hstep_pick _ _ _ _ rfl rfl rfl (fun _=>.refl _) (fun _=>.refl _)) rfl rfl rfl ?_
 refine sm ?_
 first
 | refine stg 14 (fun hb=>hop_move rfl) rfl rfl rfl rfl rfl ?_
 | refine sth 14 (fun hb=>hop_move rfl) rfl rfl rfl rfl rfl ?_
 first
 | refine stg 14 (fun hb=>hop_move rfl) rfl rfl rfl rfl rfl ?_
 | refine sth 14 (fun hb=>hop_move rfl) rfl rfl rfl rfl rfl ?_
 first
 | refine stg 14 (fun hb=>hop_len_sl (T:=48) rfl (elOf_spec el_48).1 rfl) rfl rfl rfl rfl rfl ?_
 | refine sth 14 (fun hb=>hop_len_sl (T:=48) rfl (elOf_spec el_48).1 rfl) rfl rfl rfl rfl rfl ?_
 | refine stg 14 (fun hb=>hop_len_os (T:=48) rfl (elOf_spec el_48).1 rfl) rfl rfl rfl rfl rfl ?_
 | refine sth 14 (fun hb=>hop_len_os (T:=48) rfl (elOf_spec el_48).1 rfl) rfl rfl rfl rfl rfl ?_
 | refine stg 14 (fun hb=>hop_len_nil (T:=48) rfl (elOf_spec el_48).1 rfl) rfl rfl rfl rfl rfl ?_
 | refine sth 14 (fun hb=>hop_len_nil (T:=48) rfl (elOf_spec el_48).1 rfl) rfl rfl rfl rfl rfl ?_
 first
 | refine stg 14 (fun hb=>hop_geq rfl rfl) rfl rfl rfl rfl rfl ?_
 | refine sth 14 (fun hb=>hop_geq rfl rfl) rfl rfl rfl rfl rfl ?_
 first
 | refine hq_p 19 (hstep_and _ _ rfl rfl rfl) rfl rfl rfl ?_
 | refine hq_p 19 (hstep_or _ _ rfl rfl rfl) rfl rfl rfl ?_
 | refine hq_p 19 (hstep_ite _ _ _ rfl rfl rfl) rfl rfl rfl ?_
 | refine hq_p 19 (hstep_pick _ _ _ _ rfl rfl rfl (fun _=>.refl _) (fun _=>.refl _)) rfl rfl rfl ?_
 refine sm ?_
 first
 | refine stg 20 (fun hb=>hop_move rfl) rfl rfl rfl rfl rfl ?_
 | refine sth 20 (fun hb=>hop_move rfl) rfl rfl rfl rfl rfl ?_
 first
 | refine stg 20 (fun hb=>hop_lss rfl rfl) rfl rfl rfl rfl rfl ?_
 | refine sth 20 (fun hb=>hop_lss rfl rfl) rfl rfl rfl rfl rfl ?_
 first
 | refine hq_p 23 (hstep_and _ _ rfl rfl rfl) rfl rfl rfl ?_
 | refine hq_p 23 (hstep_or _ _ rfl rfl rfl) rfl rfl rfl ?_
 | refine hq_p 23 (hstep_ite _ _ _ rfl rfl rfl) rfl rfl rfl ?_
 | refine hq_p 23 (hstep_pick _ _ _ _ rfl rfl rfl (fun _=>.refl _) (fun _=>.refl _)) rfl rfl rfl ?_
 refine sm ?_
 first
 | refine stg 24 (fun hb=>hop_move rfl) rfl rfl rfl rfl rfl ?_
 | refine sth 24 (fun hb=>hop_move rfl) rfl rfl rfl rfl rfl ?_
 first
 | refine stg 24 (fun hb=>hop_move rfl) rfl rfl rfl rfl rfl ?_
 | refine sth 24 (fun hb=>hop_move rfl) rfl rfl rfl rfl rfl ?_
 first
 | refine stg 24 (fun hb=>hop_move rfl) rfl rfl rfl rfl rfl ?_
 | refine sth 24 (fun hb=>hop_move rfl) rfl rfl rfl rfl rfl ?_
 first
 | refine stg 24 (fun hb=>hop_ia_sl el_48 rfl rfl (by first | exact Nat.le_of_ble_eq_true rfl | (simp at hb;first | omega | (dsimp only;omega) | (simp <;> omega)) | omega | (dsimp only;omega)) (by first | exact Nat.le_of_ble_eq_true rfl | (simp at hb;first | omega | (dsimp only;omega) | (simp <;> omega)) | omega | (dsimp only;omega)) (by first | exact Nat.le_of_ble_eq_true rfl | (simp at hb;first | omega | (dsimp only;omega) | (simp <;> omega)) | omega | (dsimp only;omega))) rfl rfl rfl rfl rfl ?_
 | refine sth 24 (fun hb=>hop_ia_sl el_48 rfl rfl (by first | exact Nat.le_of_ble_eq_true rfl | (simp at hb;first | omega | (dsimp only;omega) | (simp <;> omega)) | omega | (dsimp only;omega)) (by first | exact Nat.le_of_ble_eq_true rfl | (simp at hb;first | omega | (dsimp only;omega) | (simp <;> omega)) | omega | (dsimp only;omega)) (by first | exact Nat.le_of_ble_eq_true rfl | (simp at hb;first | omega | (dsimp only;omega) | (simp <;> omega)) | omega | (dsimp only;omega))) rfl rfl rfl rfl rfl ?_
 | refine hq_g 28 17 24 false _ (fun hb=>hol_ia_os el_48 rfl rfl (by first | exact Nat.le_of_ble_eq_true rfl | (simp at hb;first | omega | (dsimp only;omega) | (simp <;> omega)) | omega | (dsimp only;omega)) (by first | exact Nat.le_of_ble_eq_true rfl | (simp at hb;first | omega | (dsimp only;omega) | (simp <;> omega)) | omega | (dsimp only;omega))) rfl rfl rfl rfl (pre1 rfl) rfl rfl rfl ?_
 | refine hq_g2 28 17 24 _ _ false _ (fun hb=>hol_ia_os el_48 rfl rfl (by first | exact Nat.le_of_ble_eq_true rfl | (simp at hb;first | omega | (dsimp only;omega) | (simp <;> omega)) | omega | (dsimp only;omega)) (by first | exact Nat.le_of_ble_eq_true rfl | (simp at hb;first | omega | (dsimp only;omega) | (simp <;> omega)) | omega | (dsimp only;omega))) rfl rfl rfl rfl (pre1 rfl) rfl rfl rfl ?_
 first
 | refine stg 24 (fun hb=>hop_fa fd_88_2 rfl) rfl rfl rfl rfl rfl ?_
 | refine sth 24 (fun hb=>hop_fa fd_88_2 rfl) rfl rfl rfl rfl rfl ?_
 | refine stg 24 (fun hb=>hop_fa_fp fd_88_2 rfl (by first | exact Nat.le_of_ble_eq_true rfl | (simp at hb;first | omega | (dsimp only;omega) | (simp <;> omega)) | omega | (dsimp only;omega))) rfl rfl rfl rfl rfl ?_
 | refine sth 24 (fun hb=>hop_fa_fp fd_88_2 rfl (by first | exact Nat.le_of_ble_eq_true rfl | (simp at hb;first | omega | (dsimp only;omega) | (simp <;> omega)) | omega | (dsimp only;omega))) rfl rfl rfl rfl rfl ?_
 first
 | refine hq_g 30 17 24 false _ (fun hb=>HOp.val (v':=intV (m.getD a.toNat default).new) (hol_load ty_3 rfl (by first | exact Nat.le_of_ble_eq_true rfl | (simp at hb;first | omega | (dsimp only;omega) | (simp <;> omega)) | omega | (dsimp only;omega)) (by first | exact Nat.le_of_ble_eq_true rfl | (simp at hb;first | omega | (dsimp only;omega) | (simp <;> omega)) | omega | (dsimp only;omega)) (fun h=>(by first | rfl | cases h))) (rfl)) rfl rfl rfl rfl (pre1 rfl) rfl rfl rfl ?_
 | refine hq_g2 30 17 24 _ _ false _ (fun hb=>HOp.val (v':=intV (m.getD a.toNat default).new) (hol_load ty_3 rfl (by first | exact Nat.le_of_ble_eq_true rfl | (simp at hb;first | omega | (dsimp only;omega) | (simp <;> omega)) | omega | (dsimp only;omega)) (by first | exact Nat.le_of_ble_eq_true rfl | (simp at hb;first | omega | (dsimp only;omega) | (simp <;> omega)) | omega | (dsimp only;omega)) (fun h=>(by first | rfl | cases h))) (rfl)) rfl rfl rfl rfl (pre1 rfl) rfl rfl rfl ?_
 | refine stg 24 (fun hb=>HOp.val (v':=intV (m.getD a.toNat default).new) (hop_load_fp ty_3 rfl (by first | exact Nat.le_of_ble_eq_true rfl | (simp at hb;first | omega | (dsimp only;omega) | (simp <;> omega)) | omega | (dsimp only;omega)) (fun h=>(by first | rfl | cases h))) (rfl)) rfl rfl rfl rfl rfl ?_
 | refine sth 24 (fun hb=>HOp.val (v':=intV (m.getD a.toNat default).new) (hop_load_fp ty_3 rfl (by first | exact Nat.le_of_ble_eq_true rfl | (simp at hb;first | omega | (dsimp only;omega) | (simp <;> omega)) | omega | (dsimp only;omega)) (fun h=>(by first | rfl | cases h))) (rfl)) rfl rfl rfl rfl rfl ?_
 first
 | refine stg 24 (fun hb=>hop_gtr rfl rfl) rfl rfl rfl rfl rfl ?_
 | refine sth 24 (fun hb=>hop_gtr rfl rfl) rfl rfl rfl rfl rfl ?_
 first
 | refine hq_p 32 (hstep_and _ _ rfl rfl rfl) rfl rfl rfl ?_
 | refine hq_p 32 (hstep_or _ _ rfl rfl rfl) rfl rfl rfl ?_
 | refine hq_p 32 (hstep_ite _ _ _ rfl rfl rfl) rfl rfl rfl ?_
 | refine hq_p 32 (hstep_pick _ _ _ _ rfl rfl rfl (fun _=>.refl _) (fun _=>.refl _)) rfl rfl rfl ?_
 refine nu ?_
 refine h3 _ ?_
 refine wc (fun hc0=>?_) (fun hc0=>?_)
 ·have hr0:=hc0;(try simp only [hcs,Int.reduceToNat] at hc0)
  have hn:recV m a off=none:=(by unfold recV;rw [if_neg];rintro ⟨h1,h2,h3,h4,h5⟩;rcases hc0 with (((h | h) | h) | h) | h;(rw [h] at h1;cases h1);omega;omega;omega;omega)
  refine srg fun N h4=>sa<|snl h4<|hw_ret<|hq_then_ret ?_
  refine hq_ret1 rfl (rval_tmp rfl) [] rfl pre0 ?_
  exact Fz.eq (by rw [hn];rfl)
 have hr0:=hc0;(try simp only [hcs,Int.reduceToNat] at hc0)
 obtain ⟨⟨⟨⟨hm,ha1⟩,ha2⟩,ho1⟩,ho2⟩:=id hc0;obtain ⟨hml,hmr⟩:=rightM_iff.1 hm;have hq1:=rg_at hmr (i:=a.toNat) om;have hq2:=shift_bd hmr a.toNat om;have hn:recV m a off=some ((m.getD a.toNat default).at_+shiftTo m a.toNat+off):=(by unfold recV;rw [if_pos ⟨hm,by omega,by omega,by omega,by omega⟩])
 refine hw_skip<|h2 _<|hw_seq fun Nh5 h5=>hd_start ?_
 refine dm 1 ?_
 refine dm 2 ?_
 first
 | refine hd_q 35 (hop_ia_sl el_48 rfl rfl (by first | exact Nat.le_of_ble_eq_true rfl | omega | (dsimp only;omega) | (simp <;> omega)) (by first | exact Nat.le_of_ble_eq_true rfl | omega | (dsimp only;omega) | (simp <;> omega)) (by first | exact Nat.le_of_ble_eq_true rfl | omega | (dsimp only;omega) | (simp <;> omega))) rfl rfl pre0 rfl rfl (k':=3) rfl ?_
 | refine hd_q 35 (hol_ia_os el_48 rfl rfl (by first | exact Nat.le_of_ble_eq_true rfl | omega | (dsimp only;omega) | (simp <;> omega)) (by first | exact Nat.le_of_ble_eq_true rfl | omega | (dsimp only;omega) | (simp <;> omega))) rfl rfl (pre1 rfl) rfl rfl (k':=3) rfl ?_
 first
 | refine hd_q 36 (hop_fa fd_88_0 rfl) rfl rfl pre0 rfl rfl (k':=4) rfl ?_
 | refine hd_q 36 (hop_fa_fp fd_88_0 rfl (by first | exact Nat.le_of_ble_eq_true rfl | omega | (dsimp only;omega) | (simp <;> omega))) rfl rfl pre0 rfl rfl (k':=4) rfl ?_
 first
 | refine hd_q 37 (HOp.val (v':=intV (m.getD a.toNat default).at_) (hol_load ty_3 rfl (by first | exact Nat.le_of_ble_eq_true rfl | omega | (dsimp only;omega) | (simp <;> omega)) (by first | exact Nat.le_of_ble_eq_true rfl | omega | (dsimp only;omega) | (simp <;> omega)) (fun h=>(by first | rfl | cases h))) (rfl)) rfl rfl (pre1 rfl) rfl rfl (k':=5) rfl ?_
 | refine hd_q 37 (HOp.val (v':=intV (m.getD a.toNat default).at_) (hop_load_fp ty_3 rfl (by first | exact Nat.le_of_ble_eq_true rfl | omega | (dsimp only;omega) | (simp <;> omega)) (fun h=>(by first | rfl | cases h))) (rfl)) rfl rfl pre0 rfl rfl (k':=5) rfl ?_
 refine dm 6 ?_
 refine dm 7 ?_
 refine d0 8 (hop_call0 (xs:=[_,_]) (shift23_h m hmr hml a.toNat om) ⟨rfl,⟨rfl,trivial⟩⟩ ⟨fe,⟨(fz_intV om),trivial⟩⟩) ?_
 first
 | refine hd_q 41 (hop_addi rfl rfl rfl (by first | exact Nat.le_of_ble_eq_true rfl | omega | (dsimp only;omega) | (simp <;> omega)) (by first | exact Nat.le_of_ble_eq_true rfl | omega | (dsimp only;omega) | (simp <;> omega))) rfl rfl pre0 rfl rfl (k':=9) rfl ?_
 | refine hd_q 41 (hop_add rfl rfl) rfl rfl pre0 rfl rfl (k':=9) rfl ?_
 refine dm 10 ?_
 first
 | refine hd_q 43 (hop_addi rfl rfl rfl (by first | exact Nat.le_of_ble_eq_true rfl | omega | (dsimp only;omega) | (simp <;> omega)) (by first | exact Nat.le_of_ble_eq_true rfl | omega | (dsimp only;omega) | (simp <;> omega))) rfl rfl pre0 rfl rfl (k':=11) rfl ?_
 | refine hd_q 43 (hop_add rfl rfl) rfl rfl pre0 rfl rfl (k':=11) rfl ?_
 refine d0 12 (hop_assign rfl) ?_
 refine hd_nil kr kr (c':=12) rfl ?_
 refine h5 _<|hw_ret ?_
 refine hq_ret1 rfl (rval_tmp rfl) [] rfl pre0 ?_
 exact Fz.eq (by rw [hn];rfl)
end Go.Proofs.Ytkcfhciffdnmmaa
namespace Go.Proofs.Ytkcfhciffdnmmaa
set_option linter.unusedSimpArgs false
set_option linter.unusedVariables false
def lkI (mir:List (Int×Int)) (i:Int):Option Int:=match mir with
 | []=>none
 | p::r=>if i=p.1 then some p.2 else lkI r i
def ofV (n:Nat) (mir:List (Int×Int)) (i:Int):Option Int:=if i < 0∨(n:Int)≤i then none else lkI mir i
def recd (L:List (List Rg)) (mir:List (Int×Int)) (i:Nat) (p:Plc):Option (Nat×Int):=match ofV L.length mir i with
 | some k=>if p.gone=true∧¬ k < (i:Int) then (recV (L.getD k.toNat []) p.rng p.off).map (fun x=>(k.toNat,x)) else none
 | none=>none
def plc0:Plc:=⟨0,false,false,0,0⟩
def goR (L:List (List Rg)) (mir:List (Int×Int)) (side:Int):Nat→Nat→Plc→Plc×Int
  | 0,i,out=>(out,0)
  | n + 1, i, out => if i < L.length then
      (if out.pos < 0∨1099511627776 < out.pos then (plc0,3) else
        match recd L mir i (tellV (L.getD i []) out.pos side) with
        | some q=>goR L mir side n (q.1+1) ⟨q.2,out.gone,out.ins,out.rng,out.off⟩
        | none=>goR L mir side n (i+1) ⟨(tellV (L.getD i []) out.pos side).pos,out.gone||(tellV (L.getD i []) out.pos side).gone,out.ins||(tellV (L.getD i []) out.pos side).ins,out.rng,out.off⟩)
    else (out,0)
def routeV (L:List (List Rg)) (mir:List (Int×Int)) (pos side:Int):Plc×Int:=goR L mir side L.length 0 ⟨pos,false,false,0,0⟩
def RtOk (L:List (List Rg)) (mir:List (Int×Int)):Prop:=(∀ i,i < L.length→rightM (L.getD i [])=true)∧∀ i k,lkI mir i=some k→0≤k∧k < L.length∧k≠i
theorem goR_more (L:List (List Rg)) (mir:List (Int×Int)) (side:Int):∀ n m i out,L.length≤n+i→L.length≤m+i→goR L mir side n i out=goR L mir side m i out
  | 0,0,i,out,_,_=>rfl
  | 0,m+1,i,out,h1,h2=>by unfold goR;rw [if_neg (by omega)]
  | n+1,0,i,out,h1,h2=>by unfold goR;rw [if_neg (by omega)]
  | n + 1, m + 1, i, out, h1, h2 => by
    unfold goR
    by_cases h:i < L.length
    · rw [if_pos h,if_pos h]
      by_cases hp:out.pos < 0∨1099511627776 < out.pos
      · rw [if_pos hp,if_pos hp]
      · rw [if_neg hp,if_neg hp]
        cases hr:recd L mir i (tellV (L.getD i []) out.pos side) with
        | none=>exact goR_more L mir side n m (i+1) _ (by omega) (by omega)
        | some q =>
          have hq:i≤q.1:=by
            unfold recd at hr
            split at hr
            · rename_i k hk
              split at hr
              · rename_i hc
                obtain ⟨x,hx,rfl⟩:=Option.map_eq_some_iff.1 hr
                show i≤k.toNat
                omega
              · cases hr
            · cases hr
          exact goR_more L mir side n m (q.1+1) _ (by omega) (by omega)
    · rw [if_neg h,if_neg h]
theorem recd_ge {L:List (List Rg)} {mir:List (Int×Int)} {i:Nat} {p:Plc} {q:Nat×Int} (hr:recd L mir i p=some q):i≤q.1:=by
 unfold recd at hr
 split at hr
 ·rename_i k hk
  split at hr
  ·rename_i hc
   obtain ⟨x,hx,rfl⟩:=Option.map_eq_some_iff.1 hr
   show i≤k.toNat
   omega
  ·cases hr
 ·cases hr
def goV (L:List (List Rg)) (mir:List (Int×Int)) (side:Int) (i:Nat) (out:Plc):Plc×Int:=goR L mir side (L.length - i) i out
theorem goV_end {L:List (List Rg)} {mir:List (Int×Int)} {side:Int} {i:Nat} {out:Plc} (h:L.length≤i):goV L mir side i out=(out,0):=by
 unfold goV;rw [show L.length - i=0 by omega];rfl
theorem goV_bad {L:List (List Rg)} {mir:List (Int×Int)} {side:Int} {i:Nat} {out:Plc} (h:i < L.length) (hp:out.pos < 0∨1099511627776 < out.pos):goV L mir side i out=(plc0,3):=by
 unfold goV;rw [show L.length - i=(L.length - (i+1))+1 by omega,goR,if_pos h,if_pos hp]
theorem goV_rec {L:List (List Rg)} {mir:List (Int×Int)} {side:Int} {i:Nat} {out:Plc} {q:Nat×Int} (h:i < L.length) (hp:¬ (out.pos < 0∨1099511627776 < out.pos)) (hr:recd L mir i (tellV (L.getD i []) out.pos side)=some q):goV L mir side i out=goV L mir side (q.1+1) ⟨q.2,out.gone,out.ins,out.rng,out.off⟩:=by
 have hq:=recd_ge hr
 unfold goV
 rw [show L.length - i=(L.length - (i+1))+1 by omega,goR,if_pos h,if_neg hp,hr]
 exact goR_more L mir side _ _ _ _ (by omega) (by omega)
theorem goV_on {L:List (List Rg)} {mir:List (Int×Int)} {side:Int} {i:Nat} {out:Plc} (h:i < L.length) (hp:¬ (out.pos < 0∨1099511627776 < out.pos)) (hr:recd L mir i (tellV (L.getD i []) out.pos side)=none):goV L mir side i out=goV L mir side (i+1) ⟨(tellV (L.getD i []) out.pos side).pos,out.gone||(tellV (L.getD i []) out.pos side).gone,out.ins||(tellV (L.getD i []) out.pos side).ins,out.rng,out.off⟩:=by
 unfold goV
 rw [show L.length - i=(L.length - (i+1))+1 by omega,goR,if_pos h,if_neg hp,hr]
theorem at_shift {m:List Rg} (h:rgOk (-1) m=true):∀ i,i < m.length→0≤(m.getD i default).at_+shiftTo m i
  | 0,hi=>by have:=rg_at h hi;unfold shiftTo;omega
  | i + 1, hi => by
    have ih:=at_shift h i (by omega)
    have h1:=rg_at h (i:=i) (by omega)
    have h2:=rg_at h hi
    rw [endAt_succ] at h2
    unfold shiftTo
    omega
theorem recV_ge {m:List Rg} {a off x:Int} (h:recV m a off=some x):0≤x∧x≤1073741824+1073741824000+1073741824:=by
 unfold recV at h
 split at h
 ·rename_i hc
  injection h with h
  obtain ⟨hm,h1,h2,h3,h4⟩:=hc
  obtain ⟨hml,hmr⟩:=rightM_iff.1 hm
  have a1:=at_shift hmr a.toNat (by omega)
  have a2:=rg_at hmr (i:=a.toNat) (by omega)
  have a3:=shift_bd hmr a.toNat (by omega)
  omega
 ·cases h
theorem tellV_bd {m:List Rg} (hm:rightM m=true) {pos side:Int} (hp:0≤pos∧pos≤1099511627776):-1099511627776≤(tellV m pos side).pos∧(tellV m pos side).pos≤2 * 1099511627776+1099511627776∧0≤(tellV m pos side).rng∧(tellV m pos side).rng≤1000∧-1099511627776≤(tellV m pos side).off∧(tellV m pos side).off≤1099511627776:=by
  obtain ⟨hml,hmr⟩:=rightM_iff.1 hm
  have hb:∀ i,i≤m.length→-1073741824000≤shiftTo m i∧shiftTo m i≤1073741824000:=fun i hi=>by have:=shift_bd hmr i hi;omega
  have hfl:firstV m pos≤m.length:=by
    have:∀ n i,i≤m.length→firstI m pos n i≤m.length:=by
      intro n
      induction n with
      | zero=>intro i hi;exact hi
      | succ n ih =>
        intro i hi
        unfold firstI
        split
        · exact ih (i+1) (by omega)
        · exact hi
    exact this _ 0 (Nat.zero_le _)
  unfold tellV tellI
  have h1:=hb _ hfl
  split
  · simp only;omega
  · rename_i hc
    have h2:=rg_at hmr (i:=firstV m pos) (by omega)
    unfold withinV
    simp only
    refine ⟨?_,?_,?_,?_,?_,?_⟩
    · split <;> omega
    · split <;> omega
    · split <;> omega
    · split <;> omega
    · split <;> omega
    · split <;> omega
def rcdP (L:List (List Rg)) (mir:List (Int×Int)) (i:Nat) (p:Plc):Int×Int×Bool:=match ofV L.length mir i with
 | some k=>if p.gone=true∧¬ k < (i:Int) then (k,(recV (L.getD k.toNat []) p.rng p.off).getD 0,(recV (L.getD k.toNat []) p.rng p.off).isSome) else (0,0,false)
 | none=>(0,0,false)
theorem rcdP_no {L:List (List Rg)} {mir:List (Int×Int)} {i:Nat} {p:Plc} (h:(p.gone=false∨(ofV L.length mir i).isSome=false)∨(ofV L.length mir i).getD 0 < (i:Int)):rcdP L mir i p=(0,0,false):=by
  unfold rcdP
  cases ho:ofV L.length mir i with
  | none=>rfl
  | some k =>
    show (if p.gone=true∧¬ k < (i:Int) then _ else _)=_
    rw [ho] at h
    rw [if_neg]
    rintro ⟨h1,h2⟩
    rcases h with (h | h) | h
    · rw [h] at h1;cases h1
    · cases h
    · exact h2 h
theorem rcdP_yes {L:List (List Rg)} {mir:List (Int×Int)} {i:Nat} {p:Plc} (h:(p.gone=true∧(ofV L.length mir i).isSome=true)∧¬ (ofV L.length mir i).getD 0 < (i:Int)):rcdP L mir i p=((ofV L.length mir i).getD 0,(recV (L.getD ((ofV L.length mir i).getD 0).toNat []) p.rng p.off).getD 0,(recV (L.getD ((ofV L.length mir i).getD 0).toNat []) p.rng p.off).isSome):=by
  unfold rcdP
  cases ho:ofV L.length mir i with
  | none=>rw [ho] at h;cases h.1.2
  | some k =>
    rw [ho] at h
    show (if p.gone=true∧¬ k < (i:Int) then _ else _)=_
    rw [if_pos ⟨h.1.1,h.2⟩]
    rfl
theorem recd_of {L:List (List Rg)} {mir:List (Int×Int)} {i:Nat} {p:Plc} (hok:RtOk L mir) (h:(rcdP L mir i p).2.2=true):∃ (k:Nat) (x:Int),rcdP L mir i p=((k:Int),x,true)∧recd L mir i p=some (k,x)∧k < L.length∧i≤k∧0≤x∧x≤1073741824+1073741824000+1073741824:=by
  unfold rcdP at h ⊢
  unfold recd
  cases ho:ofV L.length mir i with
  | none=>rw [ho] at h;cases h
  | some k =>
    rw [ho] at h
    have hb:0≤k∧k < L.length:=by
      unfold ofV at ho
      split at ho
      · cases ho
      · have:=hok.2 _ _ ho;omega
    simp only at h ⊢
    split at h
    · rename_i hc
      rw [if_pos hc,if_pos hc]
      cases hr:recV (L.getD k.toNat []) p.rng p.off with
      | none=>rw [hr] at h;cases h
      | some x =>
        have:=recV_ge hr
        refine ⟨k.toNat,x,?_,rfl,by omega,by omega,this.1,this.2⟩
        show (k,x,true)=_
        rw [show ((k.toNat:Nat):Int)=k by omega]
    · cases h
theorem recd_not {L:List (List Rg)} {mir:List (Int×Int)} {i:Nat} {p:Plc} (h:(rcdP L mir i p).2.2=false):recd L mir i p=none:=by
  unfold rcdP at h
  unfold recd
  cases ho:ofV L.length mir i with
  | none=>rfl
  | some k =>
    rw [ho] at h
    simp only at h ⊢
    split at h
    · rename_i hc
      rw [if_pos hc]
      cases hr:recV (L.getD k.toNat []) p.rng p.off with
      | none=>rfl
      | some x=>rw [hr] at h;cases h
    · rename_i hc;rw [if_neg hc]
end Go.Proofs.Ytkcfhciffdnmmaa
namespace Go.Proofs.Ytkcfhciffdnmmaa
set_option linter.unusedSimpArgs false
set_option linter.unusedVariables false
open Go.RowKit
attribute [local go_sem ↓] run_load_tok run_eql_tok run_neq_tok
attribute [local go_sem] rd_drewN rd_drew aggLoad_ptr aggRes_some
set_option maxHeartbeats 400000 in
theorem Equal_tok (A1 A2:Option Addr) (c1 c2 B1 B2:Nat) (l1 l2:List Tok) (w:World) (h1:Sl w B1 12 Tok.cells A1 l1) (h2:Sl w B2 12 Tok.cells A2 l2) (hb1:l1.length≤1000000000) (hb2:l2.length≤1000000000) :
  Calls Try.prog 55 #[.slice A1 l1.length c1,.slice A2 l2.length c2] w fun e w'=>e=.returned (.bool (decide (l1=l2)))∧∃ n,w'=w.drewN n:=by
 by_cases hl:l1.length=l2.length
 ·have hne:((l1.length:Int) != (l2.length:Int))=false:=by simp [hl]
  have HL:=Lib.hid hl;clear hl
  go_enter Try.func55,Try.ntmps55
  go_wp2
  go_loopw [5,13] (fun v i wr=>∃ k n:Nat,k≤l1.length∧i=.int .i64 k∧wr=w.drewN n∧Hid (∀ j (a:j < l1.length) (b:j < l2.length),j < k→l1[j]=l2[j])) (fun _ i _=>l1.length - (intOf i).toNat)
  case atStart=>exact ⟨0,0,Nat.zero_le _,rfl,rfl,fun j a b h=>absurd h (by omega)⟩
  case round =>
   obtain ⟨k,n,hk,rfl,rfl,HE⟩:=hrel
   by_cases hlt:k < l1.length
   ·have hlt2:k < l2.length:=by have:=HL.out;omega
    obtain ⟨b1,o1,rfl,_⟩:=h1.addr (by omega) (by omega)
    obtain ⟨b2,o2,rfl,_⟩:=h2.addr (by omega) (by omega)
    have r1:=h1.rd_ hlt
    have r2:=h2.rd_ hlt2
    by_cases he:l1[k]=l2[k]
    ·have hd:decide (l1[k]=l2[k])=true:=by simp [he]
     have HE':=Lib.hid he;clear he
     go_wp2
     go_quiet (fail)
     go_wp2
     go_roundw
     case rel =>
      refine ⟨k+1,_,by omega,by go_num,rfl,fun j a b hj=>?_⟩
      rcases Nat.lt_or_ge j k with h | h
      ·exact HE.out j a b h
      ·obtain rfl:j=k:=by omega
       exact HE'.out
     case measure=>simp [intOf];omega
    ·have hd:decide (l1[k]=l2[k])=false:=by simp [he]
     have hne2:decide (l1=l2)=false:=by
      simp only [decide_eq_false_iff_not]
      intro e;subst e;exact he rfl
     clear he
     go_wp2
     go_quiet (fail)
     go_wp2
     go_ret
     exact ⟨ret_bool hne2.symm,n+nq,by rw [World.drewN_drewN]⟩
   ·have he2:decide (l1=l2)=true:=by
     simp only [decide_eq_true_eq]
     exact List.ext_getElem HL.out fun j a b=>HE.out j a b (by omega)
    go_wp2
    go_ret
    exact ⟨ret_bool he2.symm,_,rfl⟩
 ·have hne:((l1.length:Int) != (l2.length:Int))=true:=by simp;omega
  have he2:decide (l1=l2)=false:=by
   simp only [decide_eq_false_iff_not]
   intro e;exact hl (by rw [e])
  clear hl
  go_enter Try.func55,Try.ntmps55
  go_wp2
  go_ret
  exact ⟨ret_bool he2.symm,0,rfl⟩
end Go.Proofs.Ytkcfhciffdnmmaa
namespace Go.Proofs.Ytkcfhciffdnmmaa
set_option linter.unusedSimpArgs false
set_option linter.unusedVariables false
open Go.RowKit
set_option maxHeartbeats 400000 in
theorem Clone_tok (A:Option Addr) (n c B:Nat) (l:List Tok) (w:World) (hn:l.length=n) (h:Sl w B 12 Tok.cells A l) (hB:B≤w.heap.size) (hl:n≤1000000000) :
    Calls Try.prog 33 #[.slice A n c] w (GivesSl 71 12 Tok.cells w l):=by
  have hq:=Lib.run_eql_slice_nil (P:=Try.prog) w 22 71 A n c 0 0 Try.underlying22
  cases A with
  | none =>
    have hl0:l=[]:=by
      rcases Nat.eq_zero_or_pos l.length with h0 | h0
      · exact List.eq_nil_of_length_eq_zero h0
      · obtain ⟨b,o,e,_⟩:=h.addr h0 (by omega);cases e
    subst hl0
    obtain rfl:0=n:=hn
    go_enter Try.func33,Try.ntmps33
    go_wp2
    go_ret
    exact GivesSl.of rfl rfl (Own.nil _ _ _ Tok.cells_length) (Below.refl _ _)
  | some a =>
    have HN:=Lib.hid hn;clear hn
    go_enter Try.func33,Try.ntmps33
    go_wp2_with (at_builtin;refine wpList_append_sl rfl _ _ _ rfl tokElem w.heap.size Tok.cells tok_one _ [] 0 rfl rfl (Own.empty _ _ Tok.cells_length (Nat.le_refl _)) B _ n _ l rfl HN.out (h.alloc hB _) (by omega) (le_alloc (Nat.le_refl _) _) ?_;intro A2 c2 w2 hown2 hg2 hat2)
    go_ret
    exact GivesSl.of HN.out rfl (by simpa using hown2) ((Own.empty _ _ Tok.cells_length (Nat.le_refl _)).below_grown ((Below.refl _ _).alloc (Nat.le_refl _) _) hg2 (Nat.le_refl _) (le_alloc (Nat.le_refl _) _))
def Rg.cells (t:Rg):List Value:=[.int .i64 t.at_,.int .i64 t.old,.int .i64 t.new]
theorem Rg.cells_length (t:Rg):t.cells.length=3:=by simp [Rg.cells]
theorem rg_one (t:Rg):∀ u∈t.cells,u.oneCell'=true:=by
 intro u hu
 simp only [Rg.cells,List.mem_cons,List.not_mem_nil,or_false] at hu
 rcases hu with rfl | rfl | rfl <;> rfl
theorem rgElem:Elem Try.prog 48 88 3 24 :=
 ⟨Try.underlying48,info_some (z:=.agg #[.int .i64 0,.int .i64 0,.int .i64 0]) (by kernel_rfl) rfl,by omega,by omega⟩
set_option maxHeartbeats 400000 in
theorem Clone_rg (A:Option Addr) (n c B:Nat) (l:List Rg) (w:World) (hn:l.length=n) (h:Sl w B 3 Rg.cells A l) (hB:B≤w.heap.size) (hl:n≤1000000000) :
    Calls Try.prog 45 #[.slice A n c] w (GivesSl 88 3 Rg.cells w l):=by
  have hq:=Lib.run_eql_slice_nil (P:=Try.prog) w 48 88 A n c 0 0 Try.underlying48
  cases A with
  | none =>
    have hl0:l=[]:=by
      rcases Nat.eq_zero_or_pos l.length with h0 | h0
      · exact List.eq_nil_of_length_eq_zero h0
      · obtain ⟨b,o,e,_⟩:=h.addr h0 (by omega);cases e
    subst hl0
    obtain rfl:0=n:=hn
    go_enter Try.func45,Try.ntmps45
    go_wp2
    go_ret
    exact GivesSl.of rfl rfl (Own.nil _ _ _ Rg.cells_length) (Below.refl _ _)
  | some a =>
    have HN:=Lib.hid hn;clear hn
    go_enter Try.func45,Try.ntmps45
    go_wp2_with (at_builtin;refine wpList_append_sl rfl _ _ _ rfl rgElem w.heap.size Rg.cells rg_one _ [] 0 rfl rfl (Own.empty _ _ Rg.cells_length (Nat.le_refl _)) B _ n _ l rfl HN.out (h.alloc hB _) (by omega) (le_alloc (Nat.le_refl _) _) ?_;intro A2 c2 w2 hown2 hg2 hat2)
    go_ret
    exact GivesSl.of HN.out rfl (by simpa using hown2) ((Own.empty _ _ Rg.cells_length (Nat.le_refl _)).below_grown ((Below.refl _ _).alloc (Nat.le_refl _) _) hg2 (Nat.le_refl _) (le_alloc (Nat.le_refl _) _))
end Go.Proofs.Ytkcfhciffdnmmaa
