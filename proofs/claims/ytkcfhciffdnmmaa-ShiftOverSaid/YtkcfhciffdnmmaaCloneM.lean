/-
  The document's Through and Over (printed by tools/gen_sh1.py).
-/
import Derived.Test.YtkcfhciffdnmmaaSh0
import Derived.Test.YtkcfhciffdnmmaaSmV
import Derived.Test.YtkcfhciffdnmmaaCloneR
namespace Go.Proofs.Ytkcfhciffdnmmaa
set_option linter.unusedSimpArgs false
set_option linter.unusedVariables false
set_option maxRecDepth 100000
set_option maxHeartbeats 1000000
open Go.RowKit
noncomputable instance (tl:TF) (f fr:Int) (n:Nat):Decidable (rowD tl f fr n):=Classical.propDecidable _
theorem rowD_step {tl:TF} {f fr:Int} {n:Nat} (h:rowD tl f fr n) (h1:(tl (f+n) 1).2=0) (h2:(tl (f+n) 1).1.gone=false) (h3:(tl (f+n) 1).1.pos=fr+n):rowD tl f fr (n+1):=fun i hi=>by
 by_cases e:i=n
 ·subst e;exact ⟨h1,h2,h3⟩
 ·exact h i (by omega)
theorem row26_h (L:List (List Rg)) (mir:List (Int×Int)) (hL:L.length≤100000) (hok:RtOk L mir) (sx:St) (fr:Int) (hx:0≤sx.f∧sx.f≤sx.t∧sx.t≤1073741824) (hfr:-4398046511104≤fr∧fr≤4398046511104):HPure Try.prog 47 [stV sx,rt24 L mir,intV fr] (boolV (decide (rowD (routeV L mir) sx.f fr (sx.t - sx.f).toNat))):=by
 refine hpure_of Try.func47 rfl kr _ _ _ rfl 41 rfl rfl (fun w F=>?_)
 refine srg fun N h1=>?_
 refine hm_1 3 (hop_box (id:=3) (sz:=10) rfl rfl rfl omx omx) rfl rfl pre0 rfl rfl (c':=1) rfl ?_
 refine hm_1 4 (hop_box (id:=4) (sz:=2) rfl rfl rfl omx omx) rfl rfl pre0 rfl rfl (c':=2) rfl ?_
 refine sa<|snl h1<|hw_seq fun Nh2 h2=>srg fun N h3=>?_
 first
 | refine hq_ 10 (hop_fa fd_26_1 rfl) rfl rfl pre0 rfl rfl ?_
 | refine hq_ 10 (hop_fa_fp fd_26_1 rfl (by first | exact Nat.le_of_ble_eq_true rfl | omega | (dsimp only;omega) | (simp <;> omega))) rfl rfl pre0 rfl rfl ?_
 first
 | refine hq_ 11 (hol_load ty_3 rfl (by first | exact Nat.le_of_ble_eq_true rfl | omega | (dsimp only;omega) | (simp <;> omega)) (by first | exact Nat.le_of_ble_eq_true rfl | omega | (dsimp only;omega) | (simp <;> omega)) (fun h=>(by first | rfl | cases h))) rfl rfl (pre1 rfl) rfl rfl ?_
 | refine hq_ 11 (hop_load_fp ty_3 rfl (by first | exact Nat.le_of_ble_eq_true rfl | omega | (dsimp only;omega) | (simp <;> omega)) (fun h=>(by first | rfl | cases h))) rfl rfl pre0 rfl rfl ?_
 refine sa<|snl h3<|hw_block ?_
 refine hw_loopc (α:=Nat) (fun x c=>⟨41,[(2,.v (intV fr)),(3,.v (.pt 3 0 0 0)),(4,.v (.pt 4 1 0 0)),(7,.v (intV (sx.f+x)))],[(3,⟨0,1,10,26,0,fun _=>stF sx⟩),(4,⟨1,1,2,47,0,fun _=>rtF24 L mir⟩)],c⟩) (fun x=>x≤(sx.t - sx.f).toNat∧rowD (routeV L mir) sx.f fr x) (fun x=>(sx.t - sx.f).toNat - x) (0) (by exact ⟨Nat.zero_le _,fun i h=>absurd h (Nat.not_lt_zero _)⟩) (hsub_of rfl (Nat.le_refl _) (tsr rfl (tsr rfl (tsr rfl (TmSub.cons rfl (sb_intV (show sx.f=sx.f+((0:Nat):Int) by simp)) TmSub.nil)))) hsa) (fun k c hx NhL4 hL4=>?_)
 (try dsimp only at hx hL4 ⊢)
 obtain ⟨hk,hrow⟩:=hx
 refine hw_seq fun Nh5 h5=>srg fun N h6=>sm ?_
 first
 | refine hq_ 13 (hop_fa fd_26_2 rfl) rfl rfl pre0 rfl rfl ?_
 | refine hq_ 13 (hop_fa_fp fd_26_2 rfl (by first | exact Nat.le_of_ble_eq_true rfl | omega | (dsimp only;omega) | (simp <;> omega))) rfl rfl pre0 rfl rfl ?_
 first
 | refine hq_ 14 (HOp.val (v':=intV sx.t) (hol_load ty_3 rfl (by first | exact Nat.le_of_ble_eq_true rfl | omega | (dsimp only;omega) | (simp <;> omega)) (by first | exact Nat.le_of_ble_eq_true rfl | omega | (dsimp only;omega) | (simp <;> omega)) (fun h=>(by first | rfl | cases h))) (rfl)) rfl rfl (pre1 rfl) rfl rfl ?_
 | refine hq_ 14 (HOp.val (v':=intV sx.t) (hop_load_fp ty_3 rfl (by first | exact Nat.le_of_ble_eq_true rfl | omega | (dsimp only;omega) | (simp <;> omega)) (fun h=>(by first | rfl | cases h))) (rfl)) rfl rfl pre0 rfl rfl ?_
 refine s0 hli ?_
 refine snl h6 ?_
 refine wc (fun hc0=>?_) (fun hc0=>?_)
 ·have hr0:=hc0;(try simp only [hcs,Int.reduceToNat] at hc0)
  refine hw_skip<|h5 _<|hw_seq fun Nh7 h7=>hw_block<|srg fun N h8=>?_
  first
  | refine hq_ 19 (hol_load ty_47 rfl (by first | exact Nat.le_of_ble_eq_true rfl | omega | (dsimp only;omega) | (simp <;> omega)) (by first | exact Nat.le_of_ble_eq_true rfl | omega | (dsimp only;omega) | (simp <;> omega)) (fun h=>(by first | rfl | cases h))) rfl rfl (pre1 rfl) rfl rfl ?_
  | refine hq_ 19 (hop_load_fp ty_47 rfl (by first | exact Nat.le_of_ble_eq_true rfl | omega | (dsimp only;omega) | (simp <;> omega)) (fun h=>(by first | rfl | cases h))) rfl rfl pre0 rfl rfl ?_
  refine sm ?_
  refine s0 (hop_call0 (xs:=[_,_,_]) (rtell_h L mir hL hok (sx.f+k) 1) ⟨rfl,⟨rfl,⟨rfl,trivial⟩⟩⟩ ⟨fe,⟨fe,⟨fe,trivial⟩⟩⟩) ?_
  refine sm ?_
  refine s0 hex ?_
  refine s0 hex ?_
  refine hm_1 8 (hop_alloc (id:=8) (sz:=5) zc_93 rfl rfl omx omx) rfl rfl pre0 rfl rfl (c':=c+1) rfl ?_
  first
  | refine hm_s1 (hol_storeW ty_93 rfl rfl rfl rfl) rfl rfl (pre1 rfl) (c':=c+2) rfl ?_
  | refine hm_s1 (hol_store ty_93 rfl rfl rfl rfl (by first | exact Nat.le_of_ble_eq_true rfl | omega | (dsimp only;omega) | (simp <;> omega)) (by first | exact Nat.le_of_ble_eq_true rfl | omega | (dsimp only;omega) | (simp <;> omega)) (by first | exact Nat.le_of_ble_eq_true rfl | omega | (dsimp only;omega) | (simp <;> omega))) rfl rfl (pre1 rfl) (c':=c+2) rfl ?_
  refine sa<|snl h8<|srg fun N h9=>sm ?_
  refine s0 (hop_not rfl) ?_
  refine sm ?_
  first
  | refine stg 26 (fun hb=>hop_fa fd_93_1 rfl) rfl rfl rfl rfl rfl ?_
  | refine sth 26 (fun hb=>hop_fa fd_93_1 rfl) rfl rfl rfl rfl rfl ?_
  | refine stg 26 (fun hb=>hop_fa_fp fd_93_1 rfl (by first | exact Nat.le_of_ble_eq_true rfl | (simp at hb;first | omega | (dsimp only;omega) | (simp <;> omega)) | omega | (dsimp only;omega))) rfl rfl rfl rfl rfl ?_
  | refine sth 26 (fun hb=>hop_fa_fp fd_93_1 rfl (by first | exact Nat.le_of_ble_eq_true rfl | (simp at hb;first | omega | (dsimp only;omega) | (simp <;> omega)) | omega | (dsimp only;omega))) rfl rfl rfl rfl rfl ?_
  first
  | refine hq_g 28 2 26 false _ (fun hb=>HOp.val (v':=boolV ((routeV L mir) (sx.f+k) 1).1.gone) (hol_load ty_4 rfl (by first | exact Nat.le_of_ble_eq_true rfl | (simp at hb;first | omega | (dsimp only;omega) | (simp <;> omega)) | omega | (dsimp only;omega)) (by first | exact Nat.le_of_ble_eq_true rfl | (simp at hb;first | omega | (dsimp only;omega) | (simp <;> omega)) | omega | (dsimp only;omega)) (fun h=>(by first | rfl | cases h))) (rfl)) rfl rfl rfl rfl (pre1 rfl) rfl rfl rfl ?_
  | refine hq_g2 28 2 26 _ _ false _ (fun hb=>HOp.val (v':=boolV ((routeV L mir) (sx.f+k) 1).1.gone) (hol_load ty_4 rfl (by first | exact Nat.le_of_ble_eq_true rfl | (simp at hb;first | omega | (dsimp only;omega) | (simp <;> omega)) | omega | (dsimp only;omega)) (by first | exact Nat.le_of_ble_eq_true rfl | (simp at hb;first | omega | (dsimp only;omega) | (simp <;> omega)) | omega | (dsimp only;omega)) (fun h=>(by first | rfl | cases h))) (rfl)) rfl rfl rfl rfl (pre1 rfl) rfl rfl rfl ?_
  | refine stg 26 (fun hb=>HOp.val (v':=boolV ((routeV L mir) (sx.f+k) 1).1.gone) (hop_load_fp ty_4 rfl (by first | exact Nat.le_of_ble_eq_true rfl | (simp at hb;first | omega | (dsimp only;omega) | (simp <;> omega)) | omega | (dsimp only;omega)) (fun h=>(by first | rfl | cases h))) (rfl)) rfl rfl rfl rfl rfl ?_
  | refine sth 26 (fun hb=>HOp.val (v':=boolV ((routeV L mir) (sx.f+k) 1).1.gone) (hop_load_fp ty_4 rfl (by first | exact Nat.le_of_ble_eq_true rfl | (simp at hb;first | omega | (dsimp only;omega) | (simp <;> omega)) | omega | (dsimp only;omega)) (fun h=>(by first | rfl | cases h))) (rfl)) rfl rfl rfl rfl rfl ?_
  first
  | refine hq_p 29 (hstep_and _ _ rfl rfl rfl) rfl rfl rfl ?_
  | refine hq_p 29 (hstep_or _ _ rfl rfl rfl) rfl rfl rfl ?_
  | refine hq_p 29 (hstep_ite _ _ _ rfl rfl rfl) rfl rfl rfl ?_
  | refine hq_p 29 (hstep_pick _ _ _ _ rfl rfl rfl (fun _=>.refl _) (fun _=>.refl _)) rfl rfl rfl ?_
  refine sm ?_
  first
  | refine stg 30 (fun hb=>hop_fa fd_93_0 rfl) rfl rfl rfl rfl rfl ?_
  | refine sth 30 (fun hb=>hop_fa fd_93_0 rfl) rfl rfl rfl rfl rfl ?_
  | refine stg 30 (fun hb=>hop_fa_fp fd_93_0 rfl (by first | exact Nat.le_of_ble_eq_true rfl | (simp at hb;first | omega | (dsimp only;omega) | (simp <;> omega)) | omega | (dsimp only;omega))) rfl rfl rfl rfl rfl ?_
  | refine sth 30 (fun hb=>hop_fa_fp fd_93_0 rfl (by first | exact Nat.le_of_ble_eq_true rfl | (simp at hb;first | omega | (dsimp only;omega) | (simp <;> omega)) | omega | (dsimp only;omega))) rfl rfl rfl rfl rfl ?_
  first
  | refine hq_g 32 6 30 false _ (fun hb=>HOp.val (v':=intV ((routeV L mir) (sx.f+k) 1).1.pos) (hol_load ty_3 rfl (by first | exact Nat.le_of_ble_eq_true rfl | (simp at hb;first | omega | (dsimp only;omega) | (simp <;> omega)) | omega | (dsimp only;omega)) (by first | exact Nat.le_of_ble_eq_true rfl | (simp at hb;first | omega | (dsimp only;omega) | (simp <;> omega)) | omega | (dsimp only;omega)) (fun h=>(by first | rfl | cases h))) (rfl)) rfl rfl rfl rfl (pre1 rfl) rfl rfl rfl ?_
  | refine hq_g2 32 6 30 _ _ false _ (fun hb=>HOp.val (v':=intV ((routeV L mir) (sx.f+k) 1).1.pos) (hol_load ty_3 rfl (by first | exact Nat.le_of_ble_eq_true rfl | (simp at hb;first | omega | (dsimp only;omega) | (simp <;> omega)) | omega | (dsimp only;omega)) (by first | exact Nat.le_of_ble_eq_true rfl | (simp at hb;first | omega | (dsimp only;omega) | (simp <;> omega)) | omega | (dsimp only;omega)) (fun h=>(by first | rfl | cases h))) (rfl)) rfl rfl rfl rfl (pre1 rfl) rfl rfl rfl ?_
  | refine stg 30 (fun hb=>HOp.val (v':=intV ((routeV L mir) (sx.f+k) 1).1.pos) (hop_load_fp ty_3 rfl (by first | exact Nat.le_of_ble_eq_true rfl | (simp at hb;first | omega | (dsimp only;omega) | (simp <;> omega)) | omega | (dsimp only;omega)) (fun h=>(by first | rfl | cases h))) (rfl)) rfl rfl rfl rfl rfl ?_
  | refine sth 30 (fun hb=>HOp.val (v':=intV ((routeV L mir) (sx.f+k) 1).1.pos) (hop_load_fp ty_3 rfl (by first | exact Nat.le_of_ble_eq_true rfl | (simp at hb;first | omega | (dsimp only;omega) | (simp <;> omega)) | omega | (dsimp only;omega)) (fun h=>(by first | rfl | cases h))) (rfl)) rfl rfl rfl rfl rfl ?_
  first
  | refine stg 30 (fun hb=>hop_move rfl) rfl rfl rfl rfl rfl ?_
  | refine sth 30 (fun hb=>hop_move rfl) rfl rfl rfl rfl rfl ?_
  first
  | refine stg 30 (fun hb=>hop_move rfl) rfl rfl rfl rfl rfl ?_
  | refine sth 30 (fun hb=>hop_move rfl) rfl rfl rfl rfl rfl ?_
  first
  | refine stg 30 (fun hb=>hop_addi rfl rfl rfl (by first | exact Nat.le_of_ble_eq_true rfl | (simp at hb;first | omega | (dsimp only;omega) | (simp <;> omega)) | omega | (dsimp only;omega)) (by first | exact Nat.le_of_ble_eq_true rfl | (simp at hb;first | omega | (dsimp only;omega) | (simp <;> omega)) | omega | (dsimp only;omega))) rfl rfl rfl rfl rfl ?_
  | refine sth 30 (fun hb=>hop_addi rfl rfl rfl (by first | exact Nat.le_of_ble_eq_true rfl | (simp at hb;first | omega | (dsimp only;omega) | (simp <;> omega)) | omega | (dsimp only;omega)) (by first | exact Nat.le_of_ble_eq_true rfl | (simp at hb;first | omega | (dsimp only;omega) | (simp <;> omega)) | omega | (dsimp only;omega))) rfl rfl rfl rfl rfl ?_
  | refine stg 30 (fun hb=>hop_add rfl rfl) rfl rfl rfl rfl rfl ?_
  | refine sth 30 (fun hb=>hop_add rfl rfl) rfl rfl rfl rfl rfl ?_
  first
  | refine stg 30 (fun hb=>hop_fa fd_26_1 rfl) rfl rfl rfl rfl rfl ?_
  | refine sth 30 (fun hb=>hop_fa fd_26_1 rfl) rfl rfl rfl rfl rfl ?_
  | refine stg 30 (fun hb=>hop_fa_fp fd_26_1 rfl (by first | exact Nat.le_of_ble_eq_true rfl | (simp at hb;first | omega | (dsimp only;omega) | (simp <;> omega)) | omega | (dsimp only;omega))) rfl rfl rfl rfl rfl ?_
  | refine sth 30 (fun hb=>hop_fa_fp fd_26_1 rfl (by first | exact Nat.le_of_ble_eq_true rfl | (simp at hb;first | omega | (dsimp only;omega) | (simp <;> omega)) | omega | (dsimp only;omega))) rfl rfl rfl rfl rfl ?_
  first
  | refine hq_g 37 6 30 false _ (fun hb=>HOp.val (v':=intV sx.f) (hol_load ty_3 rfl (by first | exact Nat.le_of_ble_eq_true rfl | (simp at hb;first | omega | (dsimp only;omega) | (simp <;> omega)) | omega | (dsimp only;omega)) (by first | exact Nat.le_of_ble_eq_true rfl | (simp at hb;first | omega | (dsimp only;omega) | (simp <;> omega)) | omega | (dsimp only;omega)) (fun h=>(by first | rfl | cases h))) (rfl)) rfl rfl rfl rfl (pre1 rfl) rfl rfl rfl ?_
  | refine hq_g2 37 6 30 _ _ false _ (fun hb=>HOp.val (v':=intV sx.f) (hol_load ty_3 rfl (by first | exact Nat.le_of_ble_eq_true rfl | (simp at hb;first | omega | (dsimp only;omega) | (simp <;> omega)) | omega | (dsimp only;omega)) (by first | exact Nat.le_of_ble_eq_true rfl | (simp at hb;first | omega | (dsimp only;omega) | (simp <;> omega)) | omega | (dsimp only;omega)) (fun h=>(by first | rfl | cases h))) (rfl)) rfl rfl rfl rfl (pre1 rfl) rfl rfl rfl ?_
  | refine stg 30 (fun hb=>HOp.val (v':=intV sx.f) (hop_load_fp ty_3 rfl (by first | exact Nat.le_of_ble_eq_true rfl | (simp at hb;first | omega | (dsimp only;omega) | (simp <;> omega)) | omega | (dsimp only;omega)) (fun h=>(by first | rfl | cases h))) (rfl)) rfl rfl rfl rfl rfl ?_
  | refine sth 30 (fun hb=>HOp.val (v':=intV sx.f) (hop_load_fp ty_3 rfl (by first | exact Nat.le_of_ble_eq_true rfl | (simp at hb;first | omega | (dsimp only;omega) | (simp <;> omega)) | omega | (dsimp only;omega)) (fun h=>(by first | rfl | cases h))) (rfl)) rfl rfl rfl rfl rfl ?_
  first
  | refine stg 30 (fun hb=>hop_subi rfl rfl rfl (by first | exact Nat.le_of_ble_eq_true rfl | (simp at hb;first | omega | (dsimp only;omega) | (simp <;> omega)) | omega | (dsimp only;omega)) (by first | exact Nat.le_of_ble_eq_true rfl | (simp at hb;first | omega | (dsimp only;omega) | (simp <;> omega)) | omega | (dsimp only;omega))) rfl rfl rfl rfl rfl ?_
  | refine sth 30 (fun hb=>hop_subi rfl rfl rfl (by first | exact Nat.le_of_ble_eq_true rfl | (simp at hb;first | omega | (dsimp only;omega) | (simp <;> omega)) | omega | (dsimp only;omega)) (by first | exact Nat.le_of_ble_eq_true rfl | (simp at hb;first | omega | (dsimp only;omega) | (simp <;> omega)) | omega | (dsimp only;omega))) rfl rfl rfl rfl rfl ?_
  | refine stg 30 (fun hb=>hop_sub rfl rfl) rfl rfl rfl rfl rfl ?_
  | refine sth 30 (fun hb=>hop_sub rfl rfl) rfl rfl rfl rfl rfl ?_
  first
  | refine stg 30 (fun hb=>hop_neq rfl rfl) rfl rfl rfl rfl rfl ?_
  | refine sth 30 (fun hb=>hop_neq rfl rfl) rfl rfl rfl rfl rfl ?_
  first
  | refine hq_p 40 (hstep_and _ _ rfl rfl rfl) rfl rfl rfl ?_
  | refine hq_p 40 (hstep_or _ _ rfl rfl rfl) rfl rfl rfl ?_
  | refine hq_p 40 (hstep_ite _ _ _ rfl rfl rfl) rfl rfl rfl ?_
  | refine hq_p 40 (hstep_pick _ _ _ _ rfl rfl rfl (fun _=>.refl _) (fun _=>.refl _)) rfl rfl rfl ?_
  refine nu ?_
  refine h9 _ ?_
  refine wc (fun hc1=>?_) (fun hc1=>?_)
  ·have hr1:=hc1;(try simp only [hcs,Int.reduceToNat] at hc1)
   have hn:¬ rowD (routeV L mir) sx.f fr (sx.t - sx.f).toNat:=(by intro h;obtain ⟨q1,q2,q3⟩:=h k om;have h9:=hr1;simp [q1,q2,q3] at h9;omega)
   refine srg fun N h10=>sa<|snl h10<|hw_ret<|hq_block_ret<|hq_then_ret<|hq_then_ret<|hq_block_ret<|hq_then_ret ?_
   refine hq_ret1 rfl (rval_tmp rfl) [] rfl pre0 ?_
   rw [decide_eq_false hn];exact .imm _
  have hr1:=hc1;(try simp only [hcs,Int.reduceToNat] at hc1)
  have hn:((routeV L mir) (sx.f+k) 1).2=0∧((routeV L mir) (sx.f+k) 1).1.gone=false∧((routeV L mir) (sx.f+k) 1).1.pos=fr+k:=(by have h9:=hr1;simp at h9;refine ⟨?_,?_,?_⟩ <;> first | omega | (simp;omega) | exact h9.1.1 | exact h9.1.2)
  refine hw_skip<|hq_block<|h7 _<|hw_region<|sm ?_
  first
  | refine hq_ 17 (hop_addi rfl rfl rfl (by first | exact Nat.le_of_ble_eq_true rfl | omega | (dsimp only;omega) | (simp <;> omega)) (by first | exact Nat.le_of_ble_eq_true rfl | omega | (dsimp only;omega) | (simp <;> omega))) rfl rfl pre0 rfl rfl ?_
  | refine hq_ 17 (hop_add rfl rfl) rfl rfl pre0 rfl rfl ?_
  refine sa<|hseq_nil ?_
  exact hL4 (k+1) _ _ (by (try dsimp only);exact ⟨by omega,rowD_step hrow hn.1 hn.2.1 hn.2.2⟩) (by (try dsimp only);omega) (hsub_of rfl (Nat.le_refl _) (tsr rfl (tsr rfl (tsr rfl (TmSub.cons rfl (sb_intV (show sx.f+k+1=sx.f+((k+1:Nat):Int) by omega)) TmSub.nil)))) hsa)
 have hr0:=hc0;(try simp only [hcs,Int.reduceToNat] at hc0)
 have hke:k=(sx.t - sx.f).toNat:=om;subst hke
 refine hw_exit ?_
 refine hq_then_exit<|hq_then_exit<|hq_block_here<|h2 _<|srg fun N h11=>sa<|snl h11<|hw_ret ?_
 refine hq_ret1 rfl (rval_tmp rfl) [] rfl pre0 ?_
 rw [decide_eq_true hrow];exact .imm _
theorem thr26_h (L:List (List Rg)) (mir:List (Int×Int)) (hL:L.length≤100000) (hok:RtOk L mir) (sx:St) (l1:sx.sl.length≤20000) (l2:sx.sets.length≤20000):HPure Try.prog 23 [stV sx,rt24 L mir] (optV (byV (routeV L mir) sx)):=by
 have htl:TlOk (routeV L mir):=tlok_route hok
 refine hpure_of Try.func23 rfl kr _ _ _ rfl 151 rfl rfl (fun w F=>?_)
 refine srg fun N h1=>?_
 refine hm_1 2 (hop_box (id:=2) (sz:=10) rfl rfl rfl omx omx) rfl rfl pre0 rfl rfl (c':=1) rfl ?_
 refine hm_1 3 (hop_box (id:=3) (sz:=2) rfl rfl rfl omx omx) rfl rfl pre0 rfl rfl (c':=2) rfl ?_
 refine hm_1 4 (hop_alloc (id:=4) (sz:=10) zc_26 rfl rfl omx omx) rfl rfl pre0 rfl rfl (c':=3) rfl ?_
 refine sa<|snl h1<|srg fun N h2=>?_
 refine s0 (hop_build (hs:=[]) st_26 rfl rfl trivial) ?_
 refine hm_1 6 (hop_alloc (id:=6) (sz:=10) zc_26 rfl rfl omx omx) rfl rfl pre0 rfl rfl (c':=4) rfl ?_
 first
 | refine hm_s1 (hol_storeW ty_26 rfl rfl rfl rfl) rfl rfl (pre1 rfl) (c':=5) rfl ?_
 | refine hm_s1 (hol_store ty_26 rfl rfl rfl rfl (by first | exact Nat.le_of_ble_eq_true rfl | omega | (dsimp only;omega) | (simp <;> omega)) (by first | exact Nat.le_of_ble_eq_true rfl | omega | (dsimp only;omega) | (simp <;> omega)) (by first | exact Nat.le_of_ble_eq_true rfl | omega | (dsimp only;omega) | (simp <;> omega))) rfl rfl (pre1 rfl) (c':=5) rfl ?_
 refine snl h2<|hw_seq fun Nh3 h3=>srg fun N h4=>?_
 first
 | refine hq_ 17 (hol_load ty_26 rfl (by first | exact Nat.le_of_ble_eq_true rfl | omega | (dsimp only;omega) | (simp <;> omega)) (by first | exact Nat.le_of_ble_eq_true rfl | omega | (dsimp only;omega) | (simp <;> omega)) (fun h=>(by first | rfl | cases h))) rfl rfl (pre1 rfl) rfl rfl ?_
 | refine hq_ 17 (hop_load_fp ty_26 rfl (by first | exact Nat.le_of_ble_eq_true rfl | omega | (dsimp only;omega) | (simp <;> omega)) (fun h=>(by first | rfl | cases h))) rfl rfl pre0 rfl rfl ?_
 refine s0 (hop_call0 (xs:=[_]) (shape25_h sx om om) ⟨rfl,trivial⟩ ⟨fe,trivial⟩) ?_
 refine s0 (hop_not rfl) ?_
 refine snl h4 ?_
 refine wc (fun hc0=>?_) (fun hc0=>?_)
 ·have hr0:=hc0;(try simp only [hcs,Int.reduceToNat] at hc0)
  have hs:¬ sx.shape=true:=(by simpa using hr0)
  refine srg fun N h5=>?_
  first
  | refine hq_ 20 (hol_load ty_26 rfl (by first | exact Nat.le_of_ble_eq_true rfl | omega | (dsimp only;omega) | (simp <;> omega)) (by first | exact Nat.le_of_ble_eq_true rfl | omega | (dsimp only;omega) | (simp <;> omega)) (fun h=>(by first | rfl | cases h))) rfl rfl (pre1 rfl) rfl rfl ?_
  | refine hq_ 20 (hop_load_fp ty_26 rfl (by first | exact Nat.le_of_ble_eq_true rfl | omega | (dsimp only;omega) | (simp <;> omega)) (fun h=>(by first | rfl | cases h))) rfl rfl pre0 rfl rfl ?_
  first
  | refine hm_s1 (hol_storeW ty_26 rfl rfl rfl rfl) rfl rfl (pre1 rfl) (c':=6) rfl ?_
  | refine hm_s1 (hol_store ty_26 rfl rfl rfl rfl (by first | exact Nat.le_of_ble_eq_true rfl | omega | (dsimp only;omega) | (simp <;> omega)) (by first | exact Nat.le_of_ble_eq_true rfl | omega | (dsimp only;omega) | (simp <;> omega)) (by first | exact Nat.le_of_ble_eq_true rfl | omega | (dsimp only;omega) | (simp <;> omega))) rfl rfl (pre1 rfl) (c':=6) rfl ?_
  refine sa<|snl h5<|hw_ret<|hq_then_ret ?_
  refine hq_ret2 rfl (rvl_cell rfl rfl ty_26 rqc rfl rfl) (rval_tmp rfl) [] rfl pre0 ?_
  rw [byV_shape hs];exact fz_t2 (fz_agg10 fzc fzc fzc fzc fzc fzc fzc fzc fzc fzc) (.imm _)
 have hr0:=hc0;(try simp only [hcs,Int.reduceToNat] at hc0)
 have hs:sx.shape=true:=(by simpa using hr0);obtain ⟨q1,q2,q3,q4,q5⟩:=shape_in hs;have hba:=htl sx.f 1 om om;have hbb:=htl sx.t (-1) om om
 refine hw_skip<|h3 _<|srg fun N h6=>?_
 first
 | refine hq_ 22 (hol_load ty_47 rfl (by first | exact Nat.le_of_ble_eq_true rfl | omega | (dsimp only;omega) | (simp <;> omega)) (by first | exact Nat.le_of_ble_eq_true rfl | omega | (dsimp only;omega) | (simp <;> omega)) (fun h=>(by first | rfl | cases h))) rfl rfl (pre1 rfl) rfl rfl ?_
 | refine hq_ 22 (hop_load_fp ty_47 rfl (by first | exact Nat.le_of_ble_eq_true rfl | omega | (dsimp only;omega) | (simp <;> omega)) (fun h=>(by first | rfl | cases h))) rfl rfl pre0 rfl rfl ?_
 first
 | refine hq_ 23 (hop_fa fd_26_1 rfl) rfl rfl pre0 rfl rfl ?_
 | refine hq_ 23 (hop_fa_fp fd_26_1 rfl (by first | exact Nat.le_of_ble_eq_true rfl | omega | (dsimp only;omega) | (simp <;> omega))) rfl rfl pre0 rfl rfl ?_
 first
 | refine hq_ 24 (hol_load ty_3 rfl (by first | exact Nat.le_of_ble_eq_true rfl | omega | (dsimp only;omega) | (simp <;> omega)) (by first | exact Nat.le_of_ble_eq_true rfl | omega | (dsimp only;omega) | (simp <;> omega)) (fun h=>(by first | rfl | cases h))) rfl rfl (pre1 rfl) rfl rfl ?_
 | refine hq_ 24 (hop_load_fp ty_3 rfl (by first | exact Nat.le_of_ble_eq_true rfl | omega | (dsimp only;omega) | (simp <;> omega)) (fun h=>(by first | rfl | cases h))) rfl rfl pre0 rfl rfl ?_
 refine s0 (hop_call0 (xs:=[_,_,_]) (rtell_h L mir hL hok sx.f 1) ⟨rfl,⟨rfl,⟨rfl,trivial⟩⟩⟩ ⟨fe,⟨fe,⟨fe,trivial⟩⟩⟩) ?_
 refine sm ?_
 refine s0 hex ?_
 refine s0 hex ?_
 refine hm_1 7 (hop_alloc (id:=7) (sz:=5) zc_93 rfl rfl omx omx) rfl rfl pre0 rfl rfl (c':=6) rfl ?_
 first
 | refine hm_s1 (hol_storeW ty_93 rfl rfl rfl rfl) rfl rfl (pre1 rfl) (c':=7) rfl ?_
 | refine hm_s1 (hol_store ty_93 rfl rfl rfl rfl (by first | exact Nat.le_of_ble_eq_true rfl | omega | (dsimp only;omega) | (simp <;> omega)) (by first | exact Nat.le_of_ble_eq_true rfl | omega | (dsimp only;omega) | (simp <;> omega)) (by first | exact Nat.le_of_ble_eq_true rfl | omega | (dsimp only;omega) | (simp <;> omega))) rfl rfl (pre1 rfl) (c':=7) rfl ?_
 refine sa<|snl h6<|srg fun N h7=>?_
 first
 | refine hq_ 29 (hol_load ty_47 rfl (by first | exact Nat.le_of_ble_eq_true rfl | omega | (dsimp only;omega) | (simp <;> omega)) (by first | exact Nat.le_of_ble_eq_true rfl | omega | (dsimp only;omega) | (simp <;> omega)) (fun h=>(by first | rfl | cases h))) rfl rfl (pre1 rfl) rfl rfl ?_
 | refine hq_ 29 (hop_load_fp ty_47 rfl (by first | exact Nat.le_of_ble_eq_true rfl | omega | (dsimp only;omega) | (simp <;> omega)) (fun h=>(by first | rfl | cases h))) rfl rfl pre0 rfl rfl ?_
 first
 | refine hq_ 30 (hop_fa fd_26_2 rfl) rfl rfl pre0 rfl rfl ?_
 | refine hq_ 30 (hop_fa_fp fd_26_2 rfl (by first | exact Nat.le_of_ble_eq_true rfl | omega | (dsimp only;omega) | (simp <;> omega))) rfl rfl pre0 rfl rfl ?_
 first
 | refine hq_ 31 (hol_load ty_3 rfl (by first | exact Nat.le_of_ble_eq_true rfl | omega | (dsimp only;omega) | (simp <;> omega)) (by first | exact Nat.le_of_ble_eq_true rfl | omega | (dsimp only;omega) | (simp <;> omega)) (fun h=>(by first | rfl | cases h))) rfl rfl (pre1 rfl) rfl rfl ?_
 | refine hq_ 31 (hop_load_fp ty_3 rfl (by first | exact Nat.le_of_ble_eq_true rfl | omega | (dsimp only;omega) | (simp <;> omega)) (fun h=>(by first | rfl | cases h))) rfl rfl pre0 rfl rfl ?_
 refine s0 (hop_call0 (xs:=[_,_,_]) (rtell_h L mir hL hok sx.t (-1)) ⟨rfl,⟨rfl,⟨rfl,trivial⟩⟩⟩ ⟨fe,⟨fe,⟨fe,trivial⟩⟩⟩) ?_
 refine sm ?_
 refine s0 hex ?_
 refine s0 hex ?_
 refine hm_1 9 (hop_alloc (id:=9) (sz:=5) zc_93 rfl rfl omx omx) rfl rfl pre0 rfl rfl (c':=8) rfl ?_
 first
 | refine hm_s1 (hol_storeW ty_93 rfl rfl rfl rfl) rfl rfl (pre1 rfl) (c':=9) rfl ?_
 | refine hm_s1 (hol_store ty_93 rfl rfl rfl rfl (by first | exact Nat.le_of_ble_eq_true rfl | omega | (dsimp only;omega) | (simp <;> omega)) (by first | exact Nat.le_of_ble_eq_true rfl | omega | (dsimp only;omega) | (simp <;> omega)) (by first | exact Nat.le_of_ble_eq_true rfl | omega | (dsimp only;omega) | (simp <;> omega))) rfl rfl (pre1 rfl) (c':=9) rfl ?_
 refine sa<|snl h7<|hw_seq fun Nh8 h8=>srg fun N h9=>sm ?_
 refine s0 (hop_not rfl) ?_
 refine sm ?_
 first
 | refine stg 37 (fun hb=>hop_move rfl) rfl rfl rfl rfl rfl ?_
 | refine sth 37 (fun hb=>hop_move rfl) rfl rfl rfl rfl rfl ?_
 first
 | refine stg 37 (fun hb=>hop_not rfl) rfl rfl rfl rfl rfl ?_
 | refine sth 37 (fun hb=>hop_not rfl) rfl rfl rfl rfl rfl ?_
 first
 | refine hq_p 40 (hstep_and _ _ rfl rfl rfl) rfl rfl rfl ?_
 | refine hq_p 40 (hstep_or _ _ rfl rfl rfl) rfl rfl rfl ?_
 | refine hq_p 40 (hstep_ite _ _ _ rfl rfl rfl) rfl rfl rfl ?_
 | refine hq_p 40 (hstep_pick _ _ _ _ rfl rfl rfl (fun _=>.refl _) (fun _=>.refl _)) rfl rfl rfl ?_
 refine sm ?_
 first
 | refine stg 41 (fun hb=>hop_fa fd_93_2 rfl) rfl rfl rfl rfl rfl ?_
 | refine sth 41 (fun hb=>hop_fa fd_93_2 rfl) rfl rfl rfl rfl rfl ?_
 | refine stg 41 (fun hb=>hop_fa_fp fd_93_2 rfl (by first | exact Nat.le_of_ble_eq_true rfl | (simp at hb;first | omega | (dsimp only;omega) | (simp <;> omega)) | omega | (dsimp only;omega))) rfl rfl rfl rfl rfl ?_
 | refine sth 41 (fun hb=>hop_fa_fp fd_93_2 rfl (by first | exact Nat.le_of_ble_eq_true rfl | (simp at hb;first | omega | (dsimp only;omega) | (simp <;> omega)) | omega | (dsimp only;omega))) rfl rfl rfl rfl rfl ?_
 first
 | refine hq_g 43 6 41 false _ (fun hb=>HOp.val (v':=boolV ((routeV L mir) sx.f 1).1.ins) (hol_load ty_4 rfl (by first | exact Nat.le_of_ble_eq_true rfl | (simp at hb;first | omega | (dsimp only;omega) | (simp <;> omega)) | omega | (dsimp only;omega)) (by first | exact Nat.le_of_ble_eq_true rfl | (simp at hb;first | omega | (dsimp only;omega) | (simp <;> omega)) | omega | (dsimp only;omega)) (fun h=>(by first | rfl | cases h))) (rfl)) rfl rfl rfl rfl (pre1 rfl) rfl rfl rfl ?_
 | refine hq_g2 43 6 41 _ _ false _ (fun hb=>HOp.val (v':=boolV ((routeV L mir) sx.f 1).1.ins) (hol_load ty_4 rfl (by first | exact Nat.le_of_ble_eq_true rfl | (simp at hb;first | omega | (dsimp only;omega) | (simp <;> omega)) | omega | (dsimp only;omega)) (by first | exact Nat.le_of_ble_eq_true rfl | (simp at hb;first | omega | (dsimp only;omega) | (simp <;> omega)) | omega | (dsimp only;omega)) (fun h=>(by first | rfl | cases h))) (rfl)) rfl rfl rfl rfl (pre1 rfl) rfl rfl rfl ?_
 | refine stg 41 (fun hb=>HOp.val (v':=boolV ((routeV L mir) sx.f 1).1.ins) (hop_load_fp ty_4 rfl (by first | exact Nat.le_of_ble_eq_true rfl | (simp at hb;first | omega | (dsimp only;omega) | (simp <;> omega)) | omega | (dsimp only;omega)) (fun h=>(by first | rfl | cases h))) (rfl)) rfl rfl rfl rfl rfl ?_
 | refine sth 41 (fun hb=>HOp.val (v':=boolV ((routeV L mir) sx.f 1).1.ins) (hop_load_fp ty_4 rfl (by first | exact Nat.le_of_ble_eq_true rfl | (simp at hb;first | omega | (dsimp only;omega) | (simp <;> omega)) | omega | (dsimp only;omega)) (fun h=>(by first | rfl | cases h))) (rfl)) rfl rfl rfl rfl rfl ?_
 first
 | refine stg 41 (fun hb=>hop_move rfl) rfl rfl rfl rfl rfl ?_
 | refine sth 41 (fun hb=>hop_move rfl) rfl rfl rfl rfl rfl ?_
 first
 | refine stg 44 (fun hb=>hop_fa fd_93_2 rfl) rfl rfl rfl rfl rfl ?_
 | refine hq_g3 45 9 44 41 false true _ _ (fun hb hb2=>hop_fa fd_93_2 rfl) rfl rfl rfl rfl rfl pre0 rfl rfl rfl ?_
 | refine sth 44 (fun hb=>hop_fa fd_93_2 rfl) rfl rfl rfl rfl rfl ?_
 | refine stg 44 (fun hb=>hop_fa_fp fd_93_2 rfl (by first | exact Nat.le_of_ble_eq_true rfl | (simp at hb;first | omega | (dsimp only;omega) | (simp <;> omega)) | omega | (dsimp only;omega))) rfl rfl rfl rfl rfl ?_
 | refine hq_g3 45 9 44 41 false true _ _ (fun hb hb2=>hop_fa_fp fd_93_2 rfl (by first | exact Nat.le_of_ble_eq_true rfl | (simp at hb;omega) | (simp at hb2;omega) | (simp at hb hb2;first | omega | (dsimp only;omega) | (simp <;> omega)) | omega | (dsimp only;omega))) rfl rfl rfl rfl rfl pre0 rfl rfl rfl ?_
 | refine sth 44 (fun hb=>hop_fa_fp fd_93_2 rfl (by first | exact Nat.le_of_ble_eq_true rfl | (simp at hb;first | omega | (dsimp only;omega) | (simp <;> omega)) | omega | (dsimp only;omega))) rfl rfl rfl rfl rfl ?_
 first
 | refine hq_g 46 9 44 true _ (fun hb=>HOp.val (v':=boolV ((routeV L mir) sx.t (-1)).1.ins) (hol_load ty_4 rfl (by first | exact Nat.le_of_ble_eq_true rfl | (simp at hb;first | omega | (dsimp only;omega) | (simp <;> omega)) | omega | (dsimp only;omega)) (by first | exact Nat.le_of_ble_eq_true rfl | (simp at hb;first | omega | (dsimp only;omega) | (simp <;> omega)) | omega | (dsimp only;omega)) (fun h=>(by first | rfl | cases h))) (rfl)) rfl rfl rfl rfl (pre1 rfl) rfl rfl rfl ?_
 | refine hq_g3 46 9 44 41 false true _ _ (fun hb hb2=>HOp.val (v':=boolV ((routeV L mir) sx.t (-1)).1.ins) (hol_load ty_4 rfl (by first | exact Nat.le_of_ble_eq_true rfl | (simp at hb;omega) | (simp at hb2;omega) | (simp at hb hb2;first | omega | (dsimp only;omega) | (simp <;> omega)) | omega | (dsimp only;omega)) (by first | exact Nat.le_of_ble_eq_true rfl | (simp at hb;omega) | (simp at hb2;omega) | (simp at hb hb2;first | omega | (dsimp only;omega) | (simp <;> omega)) | omega | (dsimp only;omega)) (fun h=>(by first | rfl | cases h))) (rfl)) rfl rfl rfl rfl rfl (pre1 rfl) rfl rfl rfl ?_
 | refine hq_g2 46 9 44 _ _ true _ (fun hb=>HOp.val (v':=boolV ((routeV L mir) sx.t (-1)).1.ins) (hol_load ty_4 rfl (by first | exact Nat.le_of_ble_eq_true rfl | (simp at hb;first | omega | (dsimp only;omega) | (simp <;> omega)) | omega | (dsimp only;omega)) (by first | exact Nat.le_of_ble_eq_true rfl | (simp at hb;first | omega | (dsimp only;omega) | (simp <;> omega)) | omega | (dsimp only;omega)) (fun h=>(by first | rfl | cases h))) (rfl)) rfl rfl rfl rfl (pre1 rfl) rfl rfl rfl ?_
 | refine stg 44 (fun hb=>HOp.val (v':=boolV ((routeV L mir) sx.t (-1)).1.ins) (hop_load_fp ty_4 rfl (by first | exact Nat.le_of_ble_eq_true rfl | (simp at hb;first | omega | (dsimp only;omega) | (simp <;> omega)) | omega | (dsimp only;omega)) (fun h=>(by first | rfl | cases h))) (rfl)) rfl rfl rfl rfl rfl ?_
 | refine hq_g3 46 9 44 41 false true _ _ (fun hb hb2=>HOp.val (v':=boolV ((routeV L mir) sx.t (-1)).1.ins) (hop_load_fp ty_4 rfl (by first | exact Nat.le_of_ble_eq_true rfl | (simp at hb;omega) | (simp at hb2;omega) | (simp at hb hb2;first | omega | (dsimp only;omega) | (simp <;> omega)) | omega | (dsimp only;omega)) (fun h=>(by first | rfl | cases h))) (rfl)) rfl rfl rfl rfl rfl pre0 rfl rfl rfl ?_
 | refine sth 44 (fun hb=>HOp.val (v':=boolV ((routeV L mir) sx.t (-1)).1.ins) (hop_load_fp ty_4 rfl (by first | exact Nat.le_of_ble_eq_true rfl | (simp at hb;first | omega | (dsimp only;omega) | (simp <;> omega)) | omega | (dsimp only;omega)) (fun h=>(by first | rfl | cases h))) (rfl)) rfl rfl rfl rfl rfl ?_
 first
 | refine hq_pg 47 (hstep_andg (gi:=6) (j:=41) _ _ rfl rfl rfl rfl) rfl rfl rfl rfl ?_
 | refine hq_pg 47 (hstep_org (gi:=6) (j:=41) _ _ rfl rfl rfl rfl) rfl rfl rfl rfl ?_
 | refine hq_pg 47 (hstep_pickg (gi:=6) (j:=41) _ _ _ _ rfl rfl rfl rfl (fun _=>.refl _) (fun _=>.refl _)) rfl rfl rfl rfl ?_
 first
 | refine hq_p 48 (hstep_and _ _ rfl rfl rfl) rfl rfl rfl ?_
 | refine hq_p 48 (hstep_or _ _ rfl rfl rfl) rfl rfl rfl ?_
 | refine hq_p 48 (hstep_ite _ _ _ rfl rfl rfl) rfl rfl rfl ?_
 | refine hq_p 48 (hstep_pick _ _ _ _ rfl rfl rfl (fun _=>.refl _) (fun _=>.refl _)) rfl rfl rfl ?_
 refine nu ?_
 refine h9 _ ?_
 refine wc (fun hc1=>?_) (fun hc1=>?_)
 ·have hr1:=hc1;(try simp only [hcs,Int.reduceToNat] at hc1)
  have hg:gone2 (routeV L mir) sx:=(by unfold gone2;simpa using hr1)
  refine srg fun N h10=>?_
  first
  | refine hq_ 49 (hol_load ty_26 rfl (by first | exact Nat.le_of_ble_eq_true rfl | omega | (dsimp only;omega) | (simp <;> omega)) (by first | exact Nat.le_of_ble_eq_true rfl | omega | (dsimp only;omega) | (simp <;> omega)) (fun h=>(by first | rfl | cases h))) rfl rfl (pre1 rfl) rfl rfl ?_
  | refine hq_ 49 (hop_load_fp ty_26 rfl (by first | exact Nat.le_of_ble_eq_true rfl | omega | (dsimp only;omega) | (simp <;> omega)) (fun h=>(by first | rfl | cases h))) rfl rfl pre0 rfl rfl ?_
  first
  | refine hm_s1 (hol_storeW ty_26 rfl rfl rfl rfl) rfl rfl (pre1 rfl) (c':=10) rfl ?_
  | refine hm_s1 (hol_store ty_26 rfl rfl rfl rfl (by first | exact Nat.le_of_ble_eq_true rfl | omega | (dsimp only;omega) | (simp <;> omega)) (by first | exact Nat.le_of_ble_eq_true rfl | omega | (dsimp only;omega) | (simp <;> omega)) (by first | exact Nat.le_of_ble_eq_true rfl | omega | (dsimp only;omega) | (simp <;> omega))) rfl rfl (pre1 rfl) (c':=10) rfl ?_
  refine sa<|snl h10<|hw_ret<|hq_then_ret ?_
  refine hq_ret2 rfl (rvl_cell rfl rfl ty_26 rqc rfl rfl) (rval_tmp rfl) [] rfl pre0 ?_
  rw [byV_gone hg];exact fz_t2 (fz_agg10 fzc fzc fzc fzc fzc fzc fzc fzc fzc fzc) (.imm _)
 have hr1:=hc1;(try simp only [hcs,Int.reduceToNat] at hc1)
 have hg:¬ gone2 (routeV L mir) sx:=(by unfold gone2;simpa using hr1)
 refine hw_skip<|h8 _<|srg fun N h11=>?_
 first
 | refine hq_ 50 (hol_load ty_26 rfl (by first | exact Nat.le_of_ble_eq_true rfl | omega | (dsimp only;omega) | (simp <;> omega)) (by first | exact Nat.le_of_ble_eq_true rfl | omega | (dsimp only;omega) | (simp <;> omega)) (fun h=>(by first | rfl | cases h))) rfl rfl (pre1 rfl) rfl rfl ?_
 | refine hq_ 50 (hop_load_fp ty_26 rfl (by first | exact Nat.le_of_ble_eq_true rfl | omega | (dsimp only;omega) | (simp <;> omega)) (fun h=>(by first | rfl | cases h))) rfl rfl pre0 rfl rfl ?_
 refine hm_1 11 (hop_alloc (id:=11) (sz:=10) zc_26 rfl rfl omx omx) rfl rfl pre0 rfl rfl (c':=10) rfl ?_
 first
 | refine hm_s1 (hol_storeW ty_26 rfl rfl rfl rfl) rfl rfl (pre1 rfl) (c':=11) rfl ?_
 | refine hm_s1 (hol_store ty_26 rfl rfl rfl rfl (by first | exact Nat.le_of_ble_eq_true rfl | omega | (dsimp only;omega) | (simp <;> omega)) (by first | exact Nat.le_of_ble_eq_true rfl | omega | (dsimp only;omega) | (simp <;> omega)) (by first | exact Nat.le_of_ble_eq_true rfl | omega | (dsimp only;omega) | (simp <;> omega))) rfl rfl (pre1 rfl) (c':=11) rfl ?_
 refine snl h11<|srg fun N h12=>?_
 first
 | refine hq_ 51 (hop_fa fd_93_0 rfl) rfl rfl pre0 rfl rfl ?_
 | refine hq_ 51 (hop_fa_fp fd_93_0 rfl (by first | exact Nat.le_of_ble_eq_true rfl | omega | (dsimp only;omega) | (simp <;> omega))) rfl rfl pre0 rfl rfl ?_
 first
 | refine hq_ 52 (HOp.val (v':=intV ((routeV L mir) sx.f 1).1.pos) (hol_load ty_3 rfl (by first | exact Nat.le_of_ble_eq_true rfl | omega | (dsimp only;omega) | (simp <;> omega)) (by first | exact Nat.le_of_ble_eq_true rfl | omega | (dsimp only;omega) | (simp <;> omega)) (fun h=>(by first | rfl | cases h))) (rfl)) rfl rfl (pre1 rfl) rfl rfl ?_
 | refine hq_ 52 (HOp.val (v':=intV ((routeV L mir) sx.f 1).1.pos) (hop_load_fp ty_3 rfl (by first | exact Nat.le_of_ble_eq_true rfl | omega | (dsimp only;omega) | (simp <;> omega)) (fun h=>(by first | rfl | cases h))) (rfl)) rfl rfl pre0 rfl rfl ?_
 first
 | refine hq_ 53 (hop_fa fd_26_1 rfl) rfl rfl pre0 rfl rfl ?_
 | refine hq_ 53 (hop_fa_fp fd_26_1 rfl (by first | exact Nat.le_of_ble_eq_true rfl | omega | (dsimp only;omega) | (simp <;> omega))) rfl rfl pre0 rfl rfl ?_
 first
 | refine hm_s1 (hol_storeW ty_3 rfl rfl rfl rfl) rfl rfl (pre1 rfl) (c':=12) rfl ?_
 | refine hm_s1 (hol_store ty_3 rfl rfl rfl rfl (by first | exact Nat.le_of_ble_eq_true rfl | omega | (dsimp only;omega) | (simp <;> omega)) (by first | exact Nat.le_of_ble_eq_true rfl | omega | (dsimp only;omega) | (simp <;> omega)) (by first | exact Nat.le_of_ble_eq_true rfl | omega | (dsimp only;omega) | (simp <;> omega))) rfl rfl (pre1 rfl) (c':=12) rfl ?_
 refine snl h12<|srg fun N h13=>?_
 first
 | refine hq_ 54 (hop_fa fd_93_0 rfl) rfl rfl pre0 rfl rfl ?_
 | refine hq_ 54 (hop_fa_fp fd_93_0 rfl (by first | exact Nat.le_of_ble_eq_true rfl | omega | (dsimp only;omega) | (simp <;> omega))) rfl rfl pre0 rfl rfl ?_
 first
 | refine hq_ 55 (HOp.val (v':=intV ((routeV L mir) sx.f 1).1.pos) (hol_load ty_3 rfl (by first | exact Nat.le_of_ble_eq_true rfl | omega | (dsimp only;omega) | (simp <;> omega)) (by first | exact Nat.le_of_ble_eq_true rfl | omega | (dsimp only;omega) | (simp <;> omega)) (fun h=>(by first | rfl | cases h))) (rfl)) rfl rfl (pre1 rfl) rfl rfl ?_
 | refine hq_ 55 (HOp.val (v':=intV ((routeV L mir) sx.f 1).1.pos) (hop_load_fp ty_3 rfl (by first | exact Nat.le_of_ble_eq_true rfl | omega | (dsimp only;omega) | (simp <;> omega)) (fun h=>(by first | rfl | cases h))) (rfl)) rfl rfl pre0 rfl rfl ?_
 first
 | refine hq_ 56 (hop_fa fd_93_0 rfl) rfl rfl pre0 rfl rfl ?_
 | refine hq_ 56 (hop_fa_fp fd_93_0 rfl (by first | exact Nat.le_of_ble_eq_true rfl | omega | (dsimp only;omega) | (simp <;> omega))) rfl rfl pre0 rfl rfl ?_
 first
 | refine hq_ 57 (HOp.val (v':=intV ((routeV L mir) sx.t (-1)).1.pos) (hol_load ty_3 rfl (by first | exact Nat.le_of_ble_eq_true rfl | omega | (dsimp only;omega) | (simp <;> omega)) (by first | exact Nat.le_of_ble_eq_true rfl | omega | (dsimp only;omega) | (simp <;> omega)) (fun h=>(by first | rfl | cases h))) (rfl)) rfl rfl (pre1 rfl) rfl rfl ?_
 | refine hq_ 57 (HOp.val (v':=intV ((routeV L mir) sx.t (-1)).1.pos) (hop_load_fp ty_3 rfl (by first | exact Nat.le_of_ble_eq_true rfl | omega | (dsimp only;omega) | (simp <;> omega)) (fun h=>(by first | rfl | cases h))) (rfl)) rfl rfl pre0 rfl rfl ?_
 refine s0 (hop_max rfl rfl) ?_
 first
 | refine hq_ 59 (hop_fa fd_26_2 rfl) rfl rfl pre0 rfl rfl ?_
 | refine hq_ 59 (hop_fa_fp fd_26_2 rfl (by first | exact Nat.le_of_ble_eq_true rfl | omega | (dsimp only;omega) | (simp <;> omega))) rfl rfl pre0 rfl rfl ?_
 first
 | refine hm_s1 (hol_storeW ty_3 rfl rfl rfl rfl) rfl rfl (pre1 rfl) (c':=13) rfl ?_
 | refine hm_s1 (hol_store ty_3 rfl rfl rfl rfl (by first | exact Nat.le_of_ble_eq_true rfl | omega | (dsimp only;omega) | (simp <;> omega)) (by first | exact Nat.le_of_ble_eq_true rfl | omega | (dsimp only;omega) | (simp <;> omega)) (by first | exact Nat.le_of_ble_eq_true rfl | omega | (dsimp only;omega) | (simp <;> omega))) rfl rfl (pre1 rfl) (c':=13) rfl ?_
 refine snl h13<|hw_seq fun Nh14 h14=>srg fun N h15=>?_
 first
 | refine hq_ 60 (hop_fa fd_26_0 rfl) rfl rfl pre0 rfl rfl ?_
 | refine hq_ 60 (hop_fa_fp fd_26_0 rfl (by first | exact Nat.le_of_ble_eq_true rfl | omega | (dsimp only;omega) | (simp <;> omega))) rfl rfl pre0 rfl rfl ?_
 first
 | refine hq_ 61 (HOp.val (v':=intV sx.k) (hol_load ty_3 rfl (by first | exact Nat.le_of_ble_eq_true rfl | omega | (dsimp only;omega) | (simp <;> omega)) (by first | exact Nat.le_of_ble_eq_true rfl | omega | (dsimp only;omega) | (simp <;> omega)) (fun h=>(by first | rfl | cases h))) (rfl)) rfl rfl (pre1 rfl) rfl rfl ?_
 | refine hq_ 61 (HOp.val (v':=intV sx.k) (hop_load_fp ty_3 rfl (by first | exact Nat.le_of_ble_eq_true rfl | omega | (dsimp only;omega) | (simp <;> omega)) (fun h=>(by first | rfl | cases h))) (rfl)) rfl rfl pre0 rfl rfl ?_
 refine s0 hqi ?_
 refine snl h15 ?_
 refine wc (fun hc2=>?_) (fun hc2=>?_)
 ·have hr2:=hc2;(try simp only [hcs,Int.reduceToNat] at hc2)
  have k2:sx.k=2:=hc2;have hgap:sx.f≤sx.gf∧sx.gf≤sx.gt∧sx.gt≤sx.t:=gap_in hs k2;have hbc:=htl sx.gf (-1) om om;have hbd:=htl sx.gt 1 om om
  refine srg fun N h16=>?_
  first
  | refine hq_ 64 (hol_load ty_47 rfl (by first | exact Nat.le_of_ble_eq_true rfl | omega | (dsimp only;omega) | (simp <;> omega)) (by first | exact Nat.le_of_ble_eq_true rfl | omega | (dsimp only;omega) | (simp <;> omega)) (fun h=>(by first | rfl | cases h))) rfl rfl (pre1 rfl) rfl rfl ?_
  | refine hq_ 64 (hop_load_fp ty_47 rfl (by first | exact Nat.le_of_ble_eq_true rfl | omega | (dsimp only;omega) | (simp <;> omega)) (fun h=>(by first | rfl | cases h))) rfl rfl pre0 rfl rfl ?_
  first
  | refine hq_ 65 (hop_fa fd_26_3 rfl) rfl rfl pre0 rfl rfl ?_
  | refine hq_ 65 (hop_fa_fp fd_26_3 rfl (by first | exact Nat.le_of_ble_eq_true rfl | omega | (dsimp only;omega) | (simp <;> omega))) rfl rfl pre0 rfl rfl ?_
  first
  | refine hq_ 66 (hol_load ty_3 rfl (by first | exact Nat.le_of_ble_eq_true rfl | omega | (dsimp only;omega) | (simp <;> omega)) (by first | exact Nat.le_of_ble_eq_true rfl | omega | (dsimp only;omega) | (simp <;> omega)) (fun h=>(by first | rfl | cases h))) rfl rfl (pre1 rfl) rfl rfl ?_
  | refine hq_ 66 (hop_load_fp ty_3 rfl (by first | exact Nat.le_of_ble_eq_true rfl | omega | (dsimp only;omega) | (simp <;> omega)) (fun h=>(by first | rfl | cases h))) rfl rfl pre0 rfl rfl ?_
  refine s0 (hop_call0 (xs:=[_,_,_]) (rtell_h L mir hL hok sx.gf (-1)) ⟨rfl,⟨rfl,⟨rfl,trivial⟩⟩⟩ ⟨fe,⟨fe,⟨fe,trivial⟩⟩⟩) ?_
  refine sm ?_
  refine s0 hex ?_
  refine s0 hex ?_
  refine hm_1 12 (hop_alloc (id:=12) (sz:=5) zc_93 rfl rfl omx omx) rfl rfl pre0 rfl rfl (c':=14) rfl ?_
  first
  | refine hm_s1 (hol_storeW ty_93 rfl rfl rfl rfl) rfl rfl (pre1 rfl) (c':=15) rfl ?_
  | refine hm_s1 (hol_store ty_93 rfl rfl rfl rfl (by first | exact Nat.le_of_ble_eq_true rfl | omega | (dsimp only;omega) | (simp <;> omega)) (by first | exact Nat.le_of_ble_eq_true rfl | omega | (dsimp only;omega) | (simp <;> omega)) (by first | exact Nat.le_of_ble_eq_true rfl | omega | (dsimp only;omega) | (simp <;> omega))) rfl rfl (pre1 rfl) (c':=15) rfl ?_
  refine sa<|snl h16<|srg fun N h17=>?_
  first
  | refine hq_ 71 (hol_load ty_47 rfl (by first | exact Nat.le_of_ble_eq_true rfl | omega | (dsimp only;omega) | (simp <;> omega)) (by first | exact Nat.le_of_ble_eq_true rfl | omega | (dsimp only;omega) | (simp <;> omega)) (fun h=>(by first | rfl | cases h))) rfl rfl (pre1 rfl) rfl rfl ?_
  | refine hq_ 71 (hop_load_fp ty_47 rfl (by first | exact Nat.le_of_ble_eq_true rfl | omega | (dsimp only;omega) | (simp <;> omega)) (fun h=>(by first | rfl | cases h))) rfl rfl pre0 rfl rfl ?_
  first
  | refine hq_ 72 (hop_fa fd_26_4 rfl) rfl rfl pre0 rfl rfl ?_
  | refine hq_ 72 (hop_fa_fp fd_26_4 rfl (by first | exact Nat.le_of_ble_eq_true rfl | omega | (dsimp only;omega) | (simp <;> omega))) rfl rfl pre0 rfl rfl ?_
  first
  | refine hq_ 73 (hol_load ty_3 rfl (by first | exact Nat.le_of_ble_eq_true rfl | omega | (dsimp only;omega) | (simp <;> omega)) (by first | exact Nat.le_of_ble_eq_true rfl | omega | (dsimp only;omega) | (simp <;> omega)) (fun h=>(by first | rfl | cases h))) rfl rfl (pre1 rfl) rfl rfl ?_
  | refine hq_ 73 (hop_load_fp ty_3 rfl (by first | exact Nat.le_of_ble_eq_true rfl | omega | (dsimp only;omega) | (simp <;> omega)) (fun h=>(by first | rfl | cases h))) rfl rfl pre0 rfl rfl ?_
  refine s0 (hop_call0 (xs:=[_,_,_]) (rtell_h L mir hL hok sx.gt 1) ⟨rfl,⟨rfl,⟨rfl,trivial⟩⟩⟩ ⟨fe,⟨fe,⟨fe,trivial⟩⟩⟩) ?_
  refine sm ?_
  refine s0 hex ?_
  refine s0 hex ?_
  refine hm_1 14 (hop_alloc (id:=14) (sz:=5) zc_93 rfl rfl omx omx) rfl rfl pre0 rfl rfl (c':=16) rfl ?_
  first
  | refine hm_s1 (hol_storeW ty_93 rfl rfl rfl rfl) rfl rfl (pre1 rfl) (c':=17) rfl ?_
  | refine hm_s1 (hol_store ty_93 rfl rfl rfl rfl (by first | exact Nat.le_of_ble_eq_true rfl | omega | (dsimp only;omega) | (simp <;> omega)) (by first | exact Nat.le_of_ble_eq_true rfl | omega | (dsimp only;omega) | (simp <;> omega)) (by first | exact Nat.le_of_ble_eq_true rfl | omega | (dsimp only;omega) | (simp <;> omega))) rfl rfl (pre1 rfl) (c':=17) rfl ?_
  refine sa<|snl h17<|srg fun N h18=>?_
  first
  | refine hq_ 77 (hop_fa fd_93_0 rfl) rfl rfl pre0 rfl rfl ?_
  | refine hq_ 77 (hop_fa_fp fd_93_0 rfl (by first | exact Nat.le_of_ble_eq_true rfl | omega | (dsimp only;omega) | (simp <;> omega))) rfl rfl pre0 rfl rfl ?_
  first
  | refine hq_ 78 (HOp.val (v':=intV ((routeV L mir) sx.gf (-1)).1.pos) (hol_load ty_3 rfl (by first | exact Nat.le_of_ble_eq_true rfl | omega | (dsimp only;omega) | (simp <;> omega)) (by first | exact Nat.le_of_ble_eq_true rfl | omega | (dsimp only;omega) | (simp <;> omega)) (fun h=>(by first | rfl | cases h))) (rfl)) rfl rfl (pre1 rfl) rfl rfl ?_
  | refine hq_ 78 (HOp.val (v':=intV ((routeV L mir) sx.gf (-1)).1.pos) (hop_load_fp ty_3 rfl (by first | exact Nat.le_of_ble_eq_true rfl | omega | (dsimp only;omega) | (simp <;> omega)) (fun h=>(by first | rfl | cases h))) (rfl)) rfl rfl pre0 rfl rfl ?_
  first
  | refine hq_ 79 (hop_fa fd_26_3 rfl) rfl rfl pre0 rfl rfl ?_
  | refine hq_ 79 (hop_fa_fp fd_26_3 rfl (by first | exact Nat.le_of_ble_eq_true rfl | omega | (dsimp only;omega) | (simp <;> omega))) rfl rfl pre0 rfl rfl ?_
  first
  | refine hm_s1 (hol_storeW ty_3 rfl rfl rfl rfl) rfl rfl (pre1 rfl) (c':=18) rfl ?_
  | refine hm_s1 (hol_store ty_3 rfl rfl rfl rfl (by first | exact Nat.le_of_ble_eq_true rfl | omega | (dsimp only;omega) | (simp <;> omega)) (by first | exact Nat.le_of_ble_eq_true rfl | omega | (dsimp only;omega) | (simp <;> omega)) (by first | exact Nat.le_of_ble_eq_true rfl | omega | (dsimp only;omega) | (simp <;> omega))) rfl rfl (pre1 rfl) (c':=18) rfl ?_
  refine snl h18<|srg fun N h19=>?_
  first
  | refine hq_ 80 (hop_fa fd_93_0 rfl) rfl rfl pre0 rfl rfl ?_
  | refine hq_ 80 (hop_fa_fp fd_93_0 rfl (by first | exact Nat.le_of_ble_eq_true rfl | omega | (dsimp only;omega) | (simp <;> omega))) rfl rfl pre0 rfl rfl ?_
  first
  | refine hq_ 81 (HOp.val (v':=intV ((routeV L mir) sx.gt 1).1.pos) (hol_load ty_3 rfl (by first | exact Nat.le_of_ble_eq_true rfl | omega | (dsimp only;omega) | (simp <;> omega)) (by first | exact Nat.le_of_ble_eq_true rfl | omega | (dsimp only;omega) | (simp <;> omega)) (fun h=>(by first | rfl | cases h))) (rfl)) rfl rfl (pre1 rfl) rfl rfl ?_
  | refine hq_ 81 (HOp.val (v':=intV ((routeV L mir) sx.gt 1).1.pos) (hop_load_fp ty_3 rfl (by first | exact Nat.le_of_ble_eq_true rfl | omega | (dsimp only;omega) | (simp <;> omega)) (fun h=>(by first | rfl | cases h))) (rfl)) rfl rfl pre0 rfl rfl ?_
  first
  | refine hq_ 82 (hop_fa fd_26_4 rfl) rfl rfl pre0 rfl rfl ?_
  | refine hq_ 82 (hop_fa_fp fd_26_4 rfl (by first | exact Nat.le_of_ble_eq_true rfl | omega | (dsimp only;omega) | (simp <;> omega))) rfl rfl pre0 rfl rfl ?_
  first
  | refine hm_s1 (hol_storeW ty_3 rfl rfl rfl rfl) rfl rfl (pre1 rfl) (c':=19) rfl ?_
  | refine hm_s1 (hol_store ty_3 rfl rfl rfl rfl (by first | exact Nat.le_of_ble_eq_true rfl | omega | (dsimp only;omega) | (simp <;> omega)) (by first | exact Nat.le_of_ble_eq_true rfl | omega | (dsimp only;omega) | (simp <;> omega)) (by first | exact Nat.le_of_ble_eq_true rfl | omega | (dsimp only;omega) | (simp <;> omega))) rfl rfl (pre1 rfl) (c':=19) rfl ?_
  refine snl h19<|srg fun N h20=>sm ?_
  refine s0 (hop_not rfl) ?_
  refine sm ?_
  first
  | refine stg 85 (fun hb=>hop_move rfl) rfl rfl rfl rfl rfl ?_
  | refine sth 85 (fun hb=>hop_move rfl) rfl rfl rfl rfl rfl ?_
  first
  | refine stg 85 (fun hb=>hop_not rfl) rfl rfl rfl rfl rfl ?_
  | refine sth 85 (fun hb=>hop_not rfl) rfl rfl rfl rfl rfl ?_
  first
  | refine hq_p 88 (hstep_and _ _ rfl rfl rfl) rfl rfl rfl ?_
  | refine hq_p 88 (hstep_or _ _ rfl rfl rfl) rfl rfl rfl ?_
  | refine hq_p 88 (hstep_ite _ _ _ rfl rfl rfl) rfl rfl rfl ?_
  | refine hq_p 88 (hstep_pick _ _ _ _ rfl rfl rfl (fun _=>.refl _) (fun _=>.refl _)) rfl rfl rfl ?_
  refine sm ?_
  first
  | refine stg 89 (fun hb=>hop_fa fd_26_3 rfl) rfl rfl rfl rfl rfl ?_
  | refine sth 89 (fun hb=>hop_fa fd_26_3 rfl) rfl rfl rfl rfl rfl ?_
  | refine stg 89 (fun hb=>hop_fa_fp fd_26_3 rfl (by first | exact Nat.le_of_ble_eq_true rfl | (simp at hb;first | omega | (dsimp only;omega) | (simp <;> omega)) | omega | (dsimp only;omega))) rfl rfl rfl rfl rfl ?_
  | refine sth 89 (fun hb=>hop_fa_fp fd_26_3 rfl (by first | exact Nat.le_of_ble_eq_true rfl | (simp at hb;first | omega | (dsimp only;omega) | (simp <;> omega)) | omega | (dsimp only;omega))) rfl rfl rfl rfl rfl ?_
  first
  | refine hq_g 91 6 89 false _ (fun hb=>HOp.val (v':=intV ((routeV L mir) sx.gf (-1)).1.pos) (hol_load ty_3 rfl (by first | exact Nat.le_of_ble_eq_true rfl | (simp at hb;first | omega | (dsimp only;omega) | (simp <;> omega)) | omega | (dsimp only;omega)) (by first | exact Nat.le_of_ble_eq_true rfl | (simp at hb;first | omega | (dsimp only;omega) | (simp <;> omega)) | omega | (dsimp only;omega)) (fun h=>(by first | rfl | cases h))) (rfl)) rfl rfl rfl rfl (pre1 rfl) rfl rfl rfl ?_
  | refine hq_g2 91 6 89 _ _ false _ (fun hb=>HOp.val (v':=intV ((routeV L mir) sx.gf (-1)).1.pos) (hol_load ty_3 rfl (by first | exact Nat.le_of_ble_eq_true rfl | (simp at hb;first | omega | (dsimp only;omega) | (simp <;> omega)) | omega | (dsimp only;omega)) (by first | exact Nat.le_of_ble_eq_true rfl | (simp at hb;first | omega | (dsimp only;omega) | (simp <;> omega)) | omega | (dsimp only;omega)) (fun h=>(by first | rfl | cases h))) (rfl)) rfl rfl rfl rfl (pre1 rfl) rfl rfl rfl ?_
  | refine stg 89 (fun hb=>HOp.val (v':=intV ((routeV L mir) sx.gf (-1)).1.pos) (hop_load_fp ty_3 rfl (by first | exact Nat.le_of_ble_eq_true rfl | (simp at hb;first | omega | (dsimp only;omega) | (simp <;> omega)) | omega | (dsimp only;omega)) (fun h=>(by first | rfl | cases h))) (rfl)) rfl rfl rfl rfl rfl ?_
  | refine sth 89 (fun hb=>HOp.val (v':=intV ((routeV L mir) sx.gf (-1)).1.pos) (hop_load_fp ty_3 rfl (by first | exact Nat.le_of_ble_eq_true rfl | (simp at hb;first | omega | (dsimp only;omega) | (simp <;> omega)) | omega | (dsimp only;omega)) (fun h=>(by first | rfl | cases h))) (rfl)) rfl rfl rfl rfl rfl ?_
  first
  | refine stg 89 (fun hb=>hop_fa fd_26_1 rfl) rfl rfl rfl rfl rfl ?_
  | refine sth 89 (fun hb=>hop_fa fd_26_1 rfl) rfl rfl rfl rfl rfl ?_
  | refine stg 89 (fun hb=>hop_fa_fp fd_26_1 rfl (by first | exact Nat.le_of_ble_eq_true rfl | (simp at hb;first | omega | (dsimp only;omega) | (simp <;> omega)) | omega | (dsimp only;omega))) rfl rfl rfl rfl rfl ?_
  | refine sth 89 (fun hb=>hop_fa_fp fd_26_1 rfl (by first | exact Nat.le_of_ble_eq_true rfl | (simp at hb;first | omega | (dsimp only;omega) | (simp <;> omega)) | omega | (dsimp only;omega))) rfl rfl rfl rfl rfl ?_
  first
  | refine hq_g 93 6 89 false _ (fun hb=>HOp.val (v':=intV ((routeV L mir) sx.f 1).1.pos) (hol_load ty_3 rfl (by first | exact Nat.le_of_ble_eq_true rfl | (simp at hb;first | omega | (dsimp only;omega) | (simp <;> omega)) | omega | (dsimp only;omega)) (by first | exact Nat.le_of_ble_eq_true rfl | (simp at hb;first | omega | (dsimp only;omega) | (simp <;> omega)) | omega | (dsimp only;omega)) (fun h=>(by first | rfl | cases h))) (rfl)) rfl rfl rfl rfl (pre1 rfl) rfl rfl rfl ?_
  | refine hq_g2 93 6 89 _ _ false _ (fun hb=>HOp.val (v':=intV ((routeV L mir) sx.f 1).1.pos) (hol_load ty_3 rfl (by first | exact Nat.le_of_ble_eq_true rfl | (simp at hb;first | omega | (dsimp only;omega) | (simp <;> omega)) | omega | (dsimp only;omega)) (by first | exact Nat.le_of_ble_eq_true rfl | (simp at hb;first | omega | (dsimp only;omega) | (simp <;> omega)) | omega | (dsimp only;omega)) (fun h=>(by first | rfl | cases h))) (rfl)) rfl rfl rfl rfl (pre1 rfl) rfl rfl rfl ?_
  | refine stg 89 (fun hb=>HOp.val (v':=intV ((routeV L mir) sx.f 1).1.pos) (hop_load_fp ty_3 rfl (by first | exact Nat.le_of_ble_eq_true rfl | (simp at hb;first | omega | (dsimp only;omega) | (simp <;> omega)) | omega | (dsimp only;omega)) (fun h=>(by first | rfl | cases h))) (rfl)) rfl rfl rfl rfl rfl ?_
  | refine sth 89 (fun hb=>HOp.val (v':=intV ((routeV L mir) sx.f 1).1.pos) (hop_load_fp ty_3 rfl (by first | exact Nat.le_of_ble_eq_true rfl | (simp at hb;first | omega | (dsimp only;omega) | (simp <;> omega)) | omega | (dsimp only;omega)) (fun h=>(by first | rfl | cases h))) (rfl)) rfl rfl rfl rfl rfl ?_
  first
  | refine stg 89 (fun hb=>hop_lss rfl rfl) rfl rfl rfl rfl rfl ?_
  | refine sth 89 (fun hb=>hop_lss rfl rfl) rfl rfl rfl rfl rfl ?_
  first
  | refine hq_p 95 (hstep_and _ _ rfl rfl rfl) rfl rfl rfl ?_
  | refine hq_p 95 (hstep_or _ _ rfl rfl rfl) rfl rfl rfl ?_
  | refine hq_p 95 (hstep_ite _ _ _ rfl rfl rfl) rfl rfl rfl ?_
  | refine hq_p 95 (hstep_pick _ _ _ _ rfl rfl rfl (fun _=>.refl _) (fun _=>.refl _)) rfl rfl rfl ?_
  refine sm ?_
  first
  | refine stg 96 (fun hb=>hop_fa fd_26_3 rfl) rfl rfl rfl rfl rfl ?_
  | refine sth 96 (fun hb=>hop_fa fd_26_3 rfl) rfl rfl rfl rfl rfl ?_
  | refine stg 96 (fun hb=>hop_fa_fp fd_26_3 rfl (by first | exact Nat.le_of_ble_eq_true rfl | (simp at hb;first | omega | (dsimp only;omega) | (simp <;> omega)) | omega | (dsimp only;omega))) rfl rfl rfl rfl rfl ?_
  | refine sth 96 (fun hb=>hop_fa_fp fd_26_3 rfl (by first | exact Nat.le_of_ble_eq_true rfl | (simp at hb;first | omega | (dsimp only;omega) | (simp <;> omega)) | omega | (dsimp only;omega))) rfl rfl rfl rfl rfl ?_
  first
  | refine hq_g 98 13 96 false _ (fun hb=>HOp.val (v':=intV ((routeV L mir) sx.gf (-1)).1.pos) (hol_load ty_3 rfl (by first | exact Nat.le_of_ble_eq_true rfl | (simp at hb;first | omega | (dsimp only;omega) | (simp <;> omega)) | omega | (dsimp only;omega)) (by first | exact Nat.le_of_ble_eq_true rfl | (simp at hb;first | omega | (dsimp only;omega) | (simp <;> omega)) | omega | (dsimp only;omega)) (fun h=>(by first | rfl | cases h))) (rfl)) rfl rfl rfl rfl (pre1 rfl) rfl rfl rfl ?_
  | refine hq_g2 98 13 96 _ _ false _ (fun hb=>HOp.val (v':=intV ((routeV L mir) sx.gf (-1)).1.pos) (hol_load ty_3 rfl (by first | exact Nat.le_of_ble_eq_true rfl | (simp at hb;first | omega | (dsimp only;omega) | (simp <;> omega)) | omega | (dsimp only;omega)) (by first | exact Nat.le_of_ble_eq_true rfl | (simp at hb;first | omega | (dsimp only;omega) | (simp <;> omega)) | omega | (dsimp only;omega)) (fun h=>(by first | rfl | cases h))) (rfl)) rfl rfl rfl rfl (pre1 rfl) rfl rfl rfl ?_
  | refine stg 96 (fun hb=>HOp.val (v':=intV ((routeV L mir) sx.gf (-1)).1.pos) (hop_load_fp ty_3 rfl (by first | exact Nat.le_of_ble_eq_true rfl | (simp at hb;first | omega | (dsimp only;omega) | (simp <;> omega)) | omega | (dsimp only;omega)) (fun h=>(by first | rfl | cases h))) (rfl)) rfl rfl rfl rfl rfl ?_
  | refine sth 96 (fun hb=>HOp.val (v':=intV ((routeV L mir) sx.gf (-1)).1.pos) (hop_load_fp ty_3 rfl (by first | exact Nat.le_of_ble_eq_true rfl | (simp at hb;first | omega | (dsimp only;omega) | (simp <;> omega)) | omega | (dsimp only;omega)) (fun h=>(by first | rfl | cases h))) (rfl)) rfl rfl rfl rfl rfl ?_
  first
  | refine stg 96 (fun hb=>hop_fa fd_26_4 rfl) rfl rfl rfl rfl rfl ?_
  | refine sth 96 (fun hb=>hop_fa fd_26_4 rfl) rfl rfl rfl rfl rfl ?_
  | refine stg 96 (fun hb=>hop_fa_fp fd_26_4 rfl (by first | exact Nat.le_of_ble_eq_true rfl | (simp at hb;first | omega | (dsimp only;omega) | (simp <;> omega)) | omega | (dsimp only;omega))) rfl rfl rfl rfl rfl ?_
  | refine sth 96 (fun hb=>hop_fa_fp fd_26_4 rfl (by first | exact Nat.le_of_ble_eq_true rfl | (simp at hb;first | omega | (dsimp only;omega) | (simp <;> omega)) | omega | (dsimp only;omega))) rfl rfl rfl rfl rfl ?_
  first
  | refine hq_g 100 13 96 false _ (fun hb=>HOp.val (v':=intV ((routeV L mir) sx.gt 1).1.pos) (hol_load ty_3 rfl (by first | exact Nat.le_of_ble_eq_true rfl | (simp at hb;first | omega | (dsimp only;omega) | (simp <;> omega)) | omega | (dsimp only;omega)) (by first | exact Nat.le_of_ble_eq_true rfl | (simp at hb;first | omega | (dsimp only;omega) | (simp <;> omega)) | omega | (dsimp only;omega)) (fun h=>(by first | rfl | cases h))) (rfl)) rfl rfl rfl rfl (pre1 rfl) rfl rfl rfl ?_
  | refine hq_g2 100 13 96 _ _ false _ (fun hb=>HOp.val (v':=intV ((routeV L mir) sx.gt 1).1.pos) (hol_load ty_3 rfl (by first | exact Nat.le_of_ble_eq_true rfl | (simp at hb;first | omega | (dsimp only;omega) | (simp <;> omega)) | omega | (dsimp only;omega)) (by first | exact Nat.le_of_ble_eq_true rfl | (simp at hb;first | omega | (dsimp only;omega) | (simp <;> omega)) | omega | (dsimp only;omega)) (fun h=>(by first | rfl | cases h))) (rfl)) rfl rfl rfl rfl (pre1 rfl) rfl rfl rfl ?_
  | refine stg 96 (fun hb=>HOp.val (v':=intV ((routeV L mir) sx.gt 1).1.pos) (hop_load_fp ty_3 rfl (by first | exact Nat.le_of_ble_eq_true rfl | (simp at hb;first | omega | (dsimp only;omega) | (simp <;> omega)) | omega | (dsimp only;omega)) (fun h=>(by first | rfl | cases h))) (rfl)) rfl rfl rfl rfl rfl ?_
  | refine sth 96 (fun hb=>HOp.val (v':=intV ((routeV L mir) sx.gt 1).1.pos) (hop_load_fp ty_3 rfl (by first | exact Nat.le_of_ble_eq_true rfl | (simp at hb;first | omega | (dsimp only;omega) | (simp <;> omega)) | omega | (dsimp only;omega)) (fun h=>(by first | rfl | cases h))) (rfl)) rfl rfl rfl rfl rfl ?_
  first
  | refine stg 96 (fun hb=>hop_gtr rfl rfl) rfl rfl rfl rfl rfl ?_
  | refine sth 96 (fun hb=>hop_gtr rfl rfl) rfl rfl rfl rfl rfl ?_
  first
  | refine hq_p 102 (hstep_and _ _ rfl rfl rfl) rfl rfl rfl ?_
  | refine hq_p 102 (hstep_or _ _ rfl rfl rfl) rfl rfl rfl ?_
  | refine hq_p 102 (hstep_ite _ _ _ rfl rfl rfl) rfl rfl rfl ?_
  | refine hq_p 102 (hstep_pick _ _ _ _ rfl rfl rfl (fun _=>.refl _) (fun _=>.refl _)) rfl rfl rfl ?_
  refine sm ?_
  first
  | refine stg 103 (fun hb=>hop_fa fd_26_4 rfl) rfl rfl rfl rfl rfl ?_
  | refine sth 103 (fun hb=>hop_fa fd_26_4 rfl) rfl rfl rfl rfl rfl ?_
  | refine stg 103 (fun hb=>hop_fa_fp fd_26_4 rfl (by first | exact Nat.le_of_ble_eq_true rfl | (simp at hb;first | omega | (dsimp only;omega) | (simp <;> omega)) | omega | (dsimp only;omega))) rfl rfl rfl rfl rfl ?_
  | refine sth 103 (fun hb=>hop_fa_fp fd_26_4 rfl (by first | exact Nat.le_of_ble_eq_true rfl | (simp at hb;first | omega | (dsimp only;omega) | (simp <;> omega)) | omega | (dsimp only;omega))) rfl rfl rfl rfl rfl ?_
  first
  | refine hq_g 105 20 103 false _ (fun hb=>HOp.val (v':=intV ((routeV L mir) sx.gt 1).1.pos) (hol_load ty_3 rfl (by first | exact Nat.le_of_ble_eq_true rfl | (simp at hb;first | omega | (dsimp only;omega) | (simp <;> omega)) | omega | (dsimp only;omega)) (by first | exact Nat.le_of_ble_eq_true rfl | (simp at hb;first | omega | (dsimp only;omega) | (simp <;> omega)) | omega | (dsimp only;omega)) (fun h=>(by first | rfl | cases h))) (rfl)) rfl rfl rfl rfl (pre1 rfl) rfl rfl rfl ?_
  | refine hq_g2 105 20 103 _ _ false _ (fun hb=>HOp.val (v':=intV ((routeV L mir) sx.gt 1).1.pos) (hol_load ty_3 rfl (by first | exact Nat.le_of_ble_eq_true rfl | (simp at hb;first | omega | (dsimp only;omega) | (simp <;> omega)) | omega | (dsimp only;omega)) (by first | exact Nat.le_of_ble_eq_true rfl | (simp at hb;first | omega | (dsimp only;omega) | (simp <;> omega)) | omega | (dsimp only;omega)) (fun h=>(by first | rfl | cases h))) (rfl)) rfl rfl rfl rfl (pre1 rfl) rfl rfl rfl ?_
  | refine stg 103 (fun hb=>HOp.val (v':=intV ((routeV L mir) sx.gt 1).1.pos) (hop_load_fp ty_3 rfl (by first | exact Nat.le_of_ble_eq_true rfl | (simp at hb;first | omega | (dsimp only;omega) | (simp <;> omega)) | omega | (dsimp only;omega)) (fun h=>(by first | rfl | cases h))) (rfl)) rfl rfl rfl rfl rfl ?_
  | refine sth 103 (fun hb=>HOp.val (v':=intV ((routeV L mir) sx.gt 1).1.pos) (hop_load_fp ty_3 rfl (by first | exact Nat.le_of_ble_eq_true rfl | (simp at hb;first | omega | (dsimp only;omega) | (simp <;> omega)) | omega | (dsimp only;omega)) (fun h=>(by first | rfl | cases h))) (rfl)) rfl rfl rfl rfl rfl ?_
  first
  | refine stg 103 (fun hb=>hop_fa fd_93_0 rfl) rfl rfl rfl rfl rfl ?_
  | refine sth 103 (fun hb=>hop_fa fd_93_0 rfl) rfl rfl rfl rfl rfl ?_
  | refine stg 103 (fun hb=>hop_fa_fp fd_93_0 rfl (by first | exact Nat.le_of_ble_eq_true rfl | (simp at hb;first | omega | (dsimp only;omega) | (simp <;> omega)) | omega | (dsimp only;omega))) rfl rfl rfl rfl rfl ?_
  | refine sth 103 (fun hb=>hop_fa_fp fd_93_0 rfl (by first | exact Nat.le_of_ble_eq_true rfl | (simp at hb;first | omega | (dsimp only;omega) | (simp <;> omega)) | omega | (dsimp only;omega))) rfl rfl rfl rfl rfl ?_
  first
  | refine hq_g 107 20 103 false _ (fun hb=>HOp.val (v':=intV ((routeV L mir) sx.t (-1)).1.pos) (hol_load ty_3 rfl (by first | exact Nat.le_of_ble_eq_true rfl | (simp at hb;first | omega | (dsimp only;omega) | (simp <;> omega)) | omega | (dsimp only;omega)) (by first | exact Nat.le_of_ble_eq_true rfl | (simp at hb;first | omega | (dsimp only;omega) | (simp <;> omega)) | omega | (dsimp only;omega)) (fun h=>(by first | rfl | cases h))) (rfl)) rfl rfl rfl rfl (pre1 rfl) rfl rfl rfl ?_
  | refine hq_g2 107 20 103 _ _ false _ (fun hb=>HOp.val (v':=intV ((routeV L mir) sx.t (-1)).1.pos) (hol_load ty_3 rfl (by first | exact Nat.le_of_ble_eq_true rfl | (simp at hb;first | omega | (dsimp only;omega) | (simp <;> omega)) | omega | (dsimp only;omega)) (by first | exact Nat.le_of_ble_eq_true rfl | (simp at hb;first | omega | (dsimp only;omega) | (simp <;> omega)) | omega | (dsimp only;omega)) (fun h=>(by first | rfl | cases h))) (rfl)) rfl rfl rfl rfl (pre1 rfl) rfl rfl rfl ?_
  | refine stg 103 (fun hb=>HOp.val (v':=intV ((routeV L mir) sx.t (-1)).1.pos) (hop_load_fp ty_3 rfl (by first | exact Nat.le_of_ble_eq_true rfl | (simp at hb;first | omega | (dsimp only;omega) | (simp <;> omega)) | omega | (dsimp only;omega)) (fun h=>(by first | rfl | cases h))) (rfl)) rfl rfl rfl rfl rfl ?_
  | refine sth 103 (fun hb=>HOp.val (v':=intV ((routeV L mir) sx.t (-1)).1.pos) (hop_load_fp ty_3 rfl (by first | exact Nat.le_of_ble_eq_true rfl | (simp at hb;first | omega | (dsimp only;omega) | (simp <;> omega)) | omega | (dsimp only;omega)) (fun h=>(by first | rfl | cases h))) (rfl)) rfl rfl rfl rfl rfl ?_
  first
  | refine stg 103 (fun hb=>hop_gtr rfl rfl) rfl rfl rfl rfl rfl ?_
  | refine sth 103 (fun hb=>hop_gtr rfl rfl) rfl rfl rfl rfl rfl ?_
  first
  | refine hq_p 109 (hstep_and _ _ rfl rfl rfl) rfl rfl rfl ?_
  | refine hq_p 109 (hstep_or _ _ rfl rfl rfl) rfl rfl rfl ?_
  | refine hq_p 109 (hstep_ite _ _ _ rfl rfl rfl) rfl rfl rfl ?_
  | refine hq_p 109 (hstep_pick _ _ _ _ rfl rfl rfl (fun _=>.refl _) (fun _=>.refl _)) rfl rfl rfl ?_
  refine nu ?_
  refine h20 _ ?_
  refine wc (fun hc3=>?_) (fun hc3=>?_)
  ·have hr3:=hc3;(try simp only [hcs,Int.reduceToNat] at hc3)
   have hn:¬ ((kV (routeV L mir) sx).1=true∧(kV (routeV L mir) sx).2.2=false∧(kV (routeV L mir) sx).2.1.shape=true):=(by rw [kV2 k2];rintro ⟨h1,h2,h3⟩;have h9:=hr3;simp at h1 h2 h9;omega)
   refine srg fun N h21=>?_
   first
   | refine hq_ 110 (hol_load ty_26 rfl (by first | exact Nat.le_of_ble_eq_true rfl | omega | (dsimp only;omega) | (simp <;> omega)) (by first | exact Nat.le_of_ble_eq_true rfl | omega | (dsimp only;omega) | (simp <;> omega)) (fun h=>(by first | rfl | cases h))) rfl rfl (pre1 rfl) rfl rfl ?_
   | refine hq_ 110 (hop_load_fp ty_26 rfl (by first | exact Nat.le_of_ble_eq_true rfl | omega | (dsimp only;omega) | (simp <;> omega)) (fun h=>(by first | rfl | cases h))) rfl rfl pre0 rfl rfl ?_
   first
   | refine hm_s1 (hol_storeW ty_26 rfl rfl rfl rfl) rfl rfl (pre1 rfl) (c':=20) rfl ?_
   | refine hm_s1 (hol_store ty_26 rfl rfl rfl rfl (by first | exact Nat.le_of_ble_eq_true rfl | omega | (dsimp only;omega) | (simp <;> omega)) (by first | exact Nat.le_of_ble_eq_true rfl | omega | (dsimp only;omega) | (simp <;> omega)) (by first | exact Nat.le_of_ble_eq_true rfl | omega | (dsimp only;omega) | (simp <;> omega))) rfl rfl (pre1 rfl) (c':=20) rfl ?_
   refine sa<|snl h21<|hw_ret<|hq_then_ret ?_
   refine hq_ret2 rfl (rvl_cell rfl rfl ty_26 rqc rfl rfl) (rval_tmp rfl) [] rfl pre0 ?_
   rw [byV_no hn];exact fz_t2 (fz_agg10 fzc fzc fzc fzc fzc fzc fzc fzc fzc fzc) (.imm _)
  have hr3:=hc3;(try simp only [hcs,Int.reduceToNat] at hc3)
  have hy:(kV (routeV L mir) sx).1=true∧(kV (routeV L mir) sx).2.2=false:=(by rw [kV2 k2];have h9:=hr3;simp at h9 ⊢;omega)
  refine hw_skip<|h14 _<|hw_seq fun Nh22 h22=>srg fun N h23=>?_
  first
  | refine hq_ 111 (hop_fa fd_26_0 rfl) rfl rfl pre0 rfl rfl ?_
  | refine hq_ 111 (hop_fa_fp fd_26_0 rfl (by first | exact Nat.le_of_ble_eq_true rfl | omega | (dsimp only;omega) | (simp <;> omega))) rfl rfl pre0 rfl rfl ?_
  first
  | refine hq_ 112 (HOp.val (v':=intV sx.k) (hol_load ty_3 rfl (by first | exact Nat.le_of_ble_eq_true rfl | omega | (dsimp only;omega) | (simp <;> omega)) (by first | exact Nat.le_of_ble_eq_true rfl | omega | (dsimp only;omega) | (simp <;> omega)) (fun h=>(by first | rfl | cases h))) (rfl)) rfl rfl (pre1 rfl) rfl rfl ?_
  | refine hq_ 112 (HOp.val (v':=intV sx.k) (hop_load_fp ty_3 rfl (by first | exact Nat.le_of_ble_eq_true rfl | omega | (dsimp only;omega) | (simp <;> omega)) (fun h=>(by first | rfl | cases h))) (rfl)) rfl rfl pre0 rfl rfl ?_
  refine s0 hqi ?_
  refine sm ?_
  first
  | refine stg 114 (fun hb=>hop_fa fd_26_0 rfl) rfl rfl rfl rfl rfl ?_
  | refine sth 114 (fun hb=>hop_fa fd_26_0 rfl) rfl rfl rfl rfl rfl ?_
  | refine stg 114 (fun hb=>hop_fa_fp fd_26_0 rfl (by first | exact Nat.le_of_ble_eq_true rfl | (simp at hb;first | omega | (dsimp only;omega) | (simp <;> omega)) | omega | (dsimp only;omega))) rfl rfl rfl rfl rfl ?_
  | refine sth 114 (fun hb=>hop_fa_fp fd_26_0 rfl (by first | exact Nat.le_of_ble_eq_true rfl | (simp at hb;first | omega | (dsimp only;omega) | (simp <;> omega)) | omega | (dsimp only;omega))) rfl rfl rfl rfl rfl ?_
  first
  | refine hq_g 116 3 114 false _ (fun hb=>HOp.val (v':=intV sx.k) (hol_load ty_3 rfl (by first | exact Nat.le_of_ble_eq_true rfl | (simp at hb;first | omega | (dsimp only;omega) | (simp <;> omega)) | omega | (dsimp only;omega)) (by first | exact Nat.le_of_ble_eq_true rfl | (simp at hb;first | omega | (dsimp only;omega) | (simp <;> omega)) | omega | (dsimp only;omega)) (fun h=>(by first | rfl | cases h))) (rfl)) rfl rfl rfl rfl (pre1 rfl) rfl rfl rfl ?_
  | refine hq_g2 116 3 114 _ _ false _ (fun hb=>HOp.val (v':=intV sx.k) (hol_load ty_3 rfl (by first | exact Nat.le_of_ble_eq_true rfl | (simp at hb;first | omega | (dsimp only;omega) | (simp <;> omega)) | omega | (dsimp only;omega)) (by first | exact Nat.le_of_ble_eq_true rfl | (simp at hb;first | omega | (dsimp only;omega) | (simp <;> omega)) | omega | (dsimp only;omega)) (fun h=>(by first | rfl | cases h))) (rfl)) rfl rfl rfl rfl (pre1 rfl) rfl rfl rfl ?_
  | refine stg 114 (fun hb=>HOp.val (v':=intV sx.k) (hop_load_fp ty_3 rfl (by first | exact Nat.le_of_ble_eq_true rfl | (simp at hb;first | omega | (dsimp only;omega) | (simp <;> omega)) | omega | (dsimp only;omega)) (fun h=>(by first | rfl | cases h))) (rfl)) rfl rfl rfl rfl rfl ?_
  | refine sth 114 (fun hb=>HOp.val (v':=intV sx.k) (hop_load_fp ty_3 rfl (by first | exact Nat.le_of_ble_eq_true rfl | (simp at hb;first | omega | (dsimp only;omega) | (simp <;> omega)) | omega | (dsimp only;omega)) (fun h=>(by first | rfl | cases h))) (rfl)) rfl rfl rfl rfl rfl ?_
  first
  | refine stg 114 (fun hb=>hop_eql rfl rfl) rfl rfl rfl rfl rfl ?_
  | refine sth 114 (fun hb=>hop_eql rfl rfl) rfl rfl rfl rfl rfl ?_
  first
  | refine hq_p 118 (hstep_and _ _ rfl rfl rfl) rfl rfl rfl ?_
  | refine hq_p 118 (hstep_or _ _ rfl rfl rfl) rfl rfl rfl ?_
  | refine hq_p 118 (hstep_ite _ _ _ rfl rfl rfl) rfl rfl rfl ?_
  | refine hq_p 118 (hstep_pick _ _ _ _ rfl rfl rfl (fun _=>.refl _) (fun _=>.refl _)) rfl rfl rfl ?_
  refine sm ?_
  first
  | refine stg 119 (fun hb=>hop_fa fd_93_0 rfl) rfl rfl rfl rfl rfl ?_
  | refine sth 119 (fun hb=>hop_fa fd_93_0 rfl) rfl rfl rfl rfl rfl ?_
  | refine stg 119 (fun hb=>hop_fa_fp fd_93_0 rfl (by first | exact Nat.le_of_ble_eq_true rfl | (simp at hb;first | omega | (dsimp only;omega) | (simp <;> omega)) | omega | (dsimp only;omega))) rfl rfl rfl rfl rfl ?_
  | refine sth 119 (fun hb=>hop_fa_fp fd_93_0 rfl (by first | exact Nat.le_of_ble_eq_true rfl | (simp at hb;first | omega | (dsimp only;omega) | (simp <;> omega)) | omega | (dsimp only;omega))) rfl rfl rfl rfl rfl ?_
  first
  | refine hq_g 121 8 119 true _ (fun hb=>HOp.val (v':=intV ((routeV L mir) sx.t (-1)).1.pos) (hol_load ty_3 rfl (by first | exact Nat.le_of_ble_eq_true rfl | (simp at hb;first | omega | (dsimp only;omega) | (simp <;> omega)) | omega | (dsimp only;omega)) (by first | exact Nat.le_of_ble_eq_true rfl | (simp at hb;first | omega | (dsimp only;omega) | (simp <;> omega)) | omega | (dsimp only;omega)) (fun h=>(by first | rfl | cases h))) (rfl)) rfl rfl rfl rfl (pre1 rfl) rfl rfl rfl ?_
  | refine hq_g2 121 8 119 _ _ true _ (fun hb=>HOp.val (v':=intV ((routeV L mir) sx.t (-1)).1.pos) (hol_load ty_3 rfl (by first | exact Nat.le_of_ble_eq_true rfl | (simp at hb;first | omega | (dsimp only;omega) | (simp <;> omega)) | omega | (dsimp only;omega)) (by first | exact Nat.le_of_ble_eq_true rfl | (simp at hb;first | omega | (dsimp only;omega) | (simp <;> omega)) | omega | (dsimp only;omega)) (fun h=>(by first | rfl | cases h))) (rfl)) rfl rfl rfl rfl (pre1 rfl) rfl rfl rfl ?_
  | refine stg 119 (fun hb=>HOp.val (v':=intV ((routeV L mir) sx.t (-1)).1.pos) (hop_load_fp ty_3 rfl (by first | exact Nat.le_of_ble_eq_true rfl | (simp at hb;first | omega | (dsimp only;omega) | (simp <;> omega)) | omega | (dsimp only;omega)) (fun h=>(by first | rfl | cases h))) (rfl)) rfl rfl rfl rfl rfl ?_
  | refine sth 119 (fun hb=>HOp.val (v':=intV ((routeV L mir) sx.t (-1)).1.pos) (hop_load_fp ty_3 rfl (by first | exact Nat.le_of_ble_eq_true rfl | (simp at hb;first | omega | (dsimp only;omega) | (simp <;> omega)) | omega | (dsimp only;omega)) (fun h=>(by first | rfl | cases h))) (rfl)) rfl rfl rfl rfl rfl ?_
  first
  | refine stg 119 (fun hb=>hop_fa fd_26_1 rfl) rfl rfl rfl rfl rfl ?_
  | refine sth 119 (fun hb=>hop_fa fd_26_1 rfl) rfl rfl rfl rfl rfl ?_
  | refine stg 119 (fun hb=>hop_fa_fp fd_26_1 rfl (by first | exact Nat.le_of_ble_eq_true rfl | (simp at hb;first | omega | (dsimp only;omega) | (simp <;> omega)) | omega | (dsimp only;omega))) rfl rfl rfl rfl rfl ?_
  | refine sth 119 (fun hb=>hop_fa_fp fd_26_1 rfl (by first | exact Nat.le_of_ble_eq_true rfl | (simp at hb;first | omega | (dsimp only;omega) | (simp <;> omega)) | omega | (dsimp only;omega))) rfl rfl rfl rfl rfl ?_
  first
  | refine hq_g 123 8 119 true _ (fun hb=>HOp.val (v':=intV ((routeV L mir) sx.f 1).1.pos) (hol_load ty_3 rfl (by first | exact Nat.le_of_ble_eq_true rfl | (simp at hb;first | omega | (dsimp only;omega) | (simp <;> omega)) | omega | (dsimp only;omega)) (by first | exact Nat.le_of_ble_eq_true rfl | (simp at hb;first | omega | (dsimp only;omega) | (simp <;> omega)) | omega | (dsimp only;omega)) (fun h=>(by first | rfl | cases h))) (rfl)) rfl rfl rfl rfl (pre1 rfl) rfl rfl rfl ?_
  | refine hq_g2 123 8 119 _ _ true _ (fun hb=>HOp.val (v':=intV ((routeV L mir) sx.f 1).1.pos) (hol_load ty_3 rfl (by first | exact Nat.le_of_ble_eq_true rfl | (simp at hb;first | omega | (dsimp only;omega) | (simp <;> omega)) | omega | (dsimp only;omega)) (by first | exact Nat.le_of_ble_eq_true rfl | (simp at hb;first | omega | (dsimp only;omega) | (simp <;> omega)) | omega | (dsimp only;omega)) (fun h=>(by first | rfl | cases h))) (rfl)) rfl rfl rfl rfl (pre1 rfl) rfl rfl rfl ?_
  | refine stg 119 (fun hb=>HOp.val (v':=intV ((routeV L mir) sx.f 1).1.pos) (hop_load_fp ty_3 rfl (by first | exact Nat.le_of_ble_eq_true rfl | (simp at hb;first | omega | (dsimp only;omega) | (simp <;> omega)) | omega | (dsimp only;omega)) (fun h=>(by first | rfl | cases h))) (rfl)) rfl rfl rfl rfl rfl ?_
  | refine sth 119 (fun hb=>HOp.val (v':=intV ((routeV L mir) sx.f 1).1.pos) (hop_load_fp ty_3 rfl (by first | exact Nat.le_of_ble_eq_true rfl | (simp at hb;first | omega | (dsimp only;omega) | (simp <;> omega)) | omega | (dsimp only;omega)) (fun h=>(by first | rfl | cases h))) (rfl)) rfl rfl rfl rfl rfl ?_
  first
  | refine stg 119 (fun hb=>hop_leq rfl rfl) rfl rfl rfl rfl rfl ?_
  | refine sth 119 (fun hb=>hop_leq rfl rfl) rfl rfl rfl rfl rfl ?_
  first
  | refine hq_p 125 (hstep_and _ _ rfl rfl rfl) rfl rfl rfl ?_
  | refine hq_p 125 (hstep_or _ _ rfl rfl rfl) rfl rfl rfl ?_
  | refine hq_p 125 (hstep_ite _ _ _ rfl rfl rfl) rfl rfl rfl ?_
  | refine hq_p 125 (hstep_pick _ _ _ _ rfl rfl rfl (fun _=>.refl _) (fun _=>.refl _)) rfl rfl rfl ?_
  refine nu ?_
  refine h23 _ ?_
  refine wc (fun hc4=>?_) (fun hc4=>?_)
  ·have hr4:=hc4;(try simp only [hcs,Int.reduceToNat] at hc4)
   exfalso;simp at hr4;omega
  have hr4:=hc4;(try simp only [hcs,Int.reduceToNat] at hc4)
  refine hw_skip<|h22 _<|hw_seq fun Nh24 h24=>srg fun N h25=>?_
  first
  | refine hq_ 127 (hop_fa fd_26_0 rfl) rfl rfl pre0 rfl rfl ?_
  | refine hq_ 127 (hop_fa_fp fd_26_0 rfl (by first | exact Nat.le_of_ble_eq_true rfl | omega | (dsimp only;omega) | (simp <;> omega))) rfl rfl pre0 rfl rfl ?_
  first
  | refine hq_ 128 (HOp.val (v':=intV sx.k) (hol_load ty_3 rfl (by first | exact Nat.le_of_ble_eq_true rfl | omega | (dsimp only;omega) | (simp <;> omega)) (by first | exact Nat.le_of_ble_eq_true rfl | omega | (dsimp only;omega) | (simp <;> omega)) (fun h=>(by first | rfl | cases h))) (rfl)) rfl rfl (pre1 rfl) rfl rfl ?_
  | refine hq_ 128 (HOp.val (v':=intV sx.k) (hop_load_fp ty_3 rfl (by first | exact Nat.le_of_ble_eq_true rfl | omega | (dsimp only;omega) | (simp <;> omega)) (fun h=>(by first | rfl | cases h))) (rfl)) rfl rfl pre0 rfl rfl ?_
  refine s0 hqi ?_
  refine snl h25 ?_
  refine wc (fun hc5=>?_) (fun hc5=>?_)
  ·have hr5:=hc5;(try simp only [hcs,Int.reduceToNat] at hc5)
   exfalso;omega
  have hr5:=hc5;(try simp only [hcs,Int.reduceToNat] at hc5)
  refine hw_skip<|h24 _<|hw_seq fun Nh26 h26=>hw_seq fun Nh27 h27=>?_
  have ho:(kV (routeV L mir) sx).2.1=(outV (routeV L mir) sx).mv (outV (routeV L mir) sx).f (outV (routeV L mir) sx).t ((routeV L mir) sx.gf (-1)).1.pos ((routeV L mir) sx.gt 1).1.pos:=(by rw [kV2 k2])
  refine hw_region ?_
  first
  | refine hq_ 146 (hol_load ty_26 rfl (by first | exact Nat.le_of_ble_eq_true rfl | omega | (dsimp only;omega) | (simp <;> omega)) (by first | exact Nat.le_of_ble_eq_true rfl | omega | (dsimp only;omega) | (simp <;> omega)) (fun h=>(by first | rfl | cases h))) rfl rfl (pre1 rfl) rfl rfl ?_
  | refine hq_ 146 (hop_load_fp ty_26 rfl (by first | exact Nat.le_of_ble_eq_true rfl | omega | (dsimp only;omega) | (simp <;> omega)) (fun h=>(by first | rfl | cases h))) rfl rfl pre0 rfl rfl ?_
  refine s0 (hop_call0 (xs:=[_]) (shape25_h ((outV (routeV L mir) sx).mv (outV (routeV L mir) sx).f (outV (routeV L mir) sx).t ((routeV L mir) sx.gf (-1)).1.pos ((routeV L mir) sx.gt 1).1.pos) (by show sx.sl.length≤_;omega) (by show sx.sets.length≤_;omega)) ⟨rfl,trivial⟩ ⟨(fz_agg10 fzc fzc fzc fzc fzc fzc fzc fzc (by exact fz_toks sx.sl) (by exact fz_mkss sx.sets)),trivial⟩) ?_
  refine s0 (hop_not rfl) ?_
  refine snl h27 ?_
  refine wc (fun hc7=>?_) (fun hc7=>?_)
  ·have hr7:=hc7;(try simp only [hcs,Int.reduceToNat] at hc7)
   refine srg fun N h28=>?_
   first
   | refine hq_ 149 (hol_load ty_26 rfl (by first | exact Nat.le_of_ble_eq_true rfl | omega | (dsimp only;omega) | (simp <;> omega)) (by first | exact Nat.le_of_ble_eq_true rfl | omega | (dsimp only;omega) | (simp <;> omega)) (fun h=>(by first | rfl | cases h))) rfl rfl (pre1 rfl) rfl rfl ?_
   | refine hq_ 149 (hop_load_fp ty_26 rfl (by first | exact Nat.le_of_ble_eq_true rfl | omega | (dsimp only;omega) | (simp <;> omega)) (fun h=>(by first | rfl | cases h))) rfl rfl pre0 rfl rfl ?_
   first
   | refine hm_s1 (hol_storeW ty_26 rfl rfl rfl rfl) rfl rfl (pre1 rfl) (c':=20) rfl ?_
   | refine hm_s1 (hol_store ty_26 rfl rfl rfl rfl (by first | exact Nat.le_of_ble_eq_true rfl | omega | (dsimp only;omega) | (simp <;> omega)) (by first | exact Nat.le_of_ble_eq_true rfl | omega | (dsimp only;omega) | (simp <;> omega)) (by first | exact Nat.le_of_ble_eq_true rfl | omega | (dsimp only;omega) | (simp <;> omega))) rfl rfl (pre1 rfl) (c':=20) rfl ?_
   refine sa<|snl h28<|hw_ret<|hq_then_ret ?_
   refine hq_ret2 rfl (rvl_cell rfl rfl ty_26 rqc rfl rfl) (rval_tmp rfl) [] rfl pre0 ?_
   rw [byV_no (fun h=>by rw [ho] at h;simp [h.2.2] at hr7)];exact fz_t2 (fz_agg10 fzc fzc fzc fzc fzc fzc fzc fzc fzc fzc) (.imm _)
  have hr7:=hc7;(try simp only [hcs,Int.reduceToNat] at hc7)
  refine hw_skip<|h26 _<|srg fun N h29=>?_
  first
  | refine hq_ 150 (hol_load ty_26 rfl (by first | exact Nat.le_of_ble_eq_true rfl | omega | (dsimp only;omega) | (simp <;> omega)) (by first | exact Nat.le_of_ble_eq_true rfl | omega | (dsimp only;omega) | (simp <;> omega)) (fun h=>(by first | rfl | cases h))) rfl rfl (pre1 rfl) rfl rfl ?_
  | refine hq_ 150 (hop_load_fp ty_26 rfl (by first | exact Nat.le_of_ble_eq_true rfl | omega | (dsimp only;omega) | (simp <;> omega)) (fun h=>(by first | rfl | cases h))) rfl rfl pre0 rfl rfl ?_
  first
  | refine hm_s1 (hol_storeW ty_26 rfl rfl rfl rfl) rfl rfl (pre1 rfl) (c':=20) rfl ?_
  | refine hm_s1 (hol_store ty_26 rfl rfl rfl rfl (by first | exact Nat.le_of_ble_eq_true rfl | omega | (dsimp only;omega) | (simp <;> omega)) (by first | exact Nat.le_of_ble_eq_true rfl | omega | (dsimp only;omega) | (simp <;> omega)) (by first | exact Nat.le_of_ble_eq_true rfl | omega | (dsimp only;omega) | (simp <;> omega))) rfl rfl (pre1 rfl) (c':=20) rfl ?_
  refine sa<|snl h29<|hw_ret ?_
  refine hq_ret2 rfl (rvl_cell rfl rfl ty_26 rqc rfl rfl) (rval_tmp rfl) [] rfl pre0 ?_
  rw [byV_yes hs hg ⟨hy.1,hy.2,by rw [ho];simpa using hr7⟩,ho];exact fz_t2 (fz_agg10 fzc fzc fzc fzc fzc fzc fzc fzc (by exact fz_toks sx.sl) (by exact fz_mkss sx.sets)) (.imm _)
 have hr2:=hc2;(try simp only [hcs,Int.reduceToNat] at hc2)
 refine hw_skip<|h14 _<|hw_seq fun Nh30 h30=>srg fun N h31=>?_
 first
 | refine hq_ 111 (hop_fa fd_26_0 rfl) rfl rfl pre0 rfl rfl ?_
 | refine hq_ 111 (hop_fa_fp fd_26_0 rfl (by first | exact Nat.le_of_ble_eq_true rfl | omega | (dsimp only;omega) | (simp <;> omega))) rfl rfl pre0 rfl rfl ?_
 first
 | refine hq_ 112 (HOp.val (v':=intV sx.k) (hol_load ty_3 rfl (by first | exact Nat.le_of_ble_eq_true rfl | omega | (dsimp only;omega) | (simp <;> omega)) (by first | exact Nat.le_of_ble_eq_true rfl | omega | (dsimp only;omega) | (simp <;> omega)) (fun h=>(by first | rfl | cases h))) (rfl)) rfl rfl (pre1 rfl) rfl rfl ?_
 | refine hq_ 112 (HOp.val (v':=intV sx.k) (hop_load_fp ty_3 rfl (by first | exact Nat.le_of_ble_eq_true rfl | omega | (dsimp only;omega) | (simp <;> omega)) (fun h=>(by first | rfl | cases h))) (rfl)) rfl rfl pre0 rfl rfl ?_
 refine s0 hqi ?_
 refine sm ?_
 first
 | refine stg 114 (fun hb=>hop_fa fd_26_0 rfl) rfl rfl rfl rfl rfl ?_
 | refine sth 114 (fun hb=>hop_fa fd_26_0 rfl) rfl rfl rfl rfl rfl ?_
 | refine stg 114 (fun hb=>hop_fa_fp fd_26_0 rfl (by first | exact Nat.le_of_ble_eq_true rfl | (simp at hb;first | omega | (dsimp only;omega) | (simp <;> omega)) | omega | (dsimp only;omega))) rfl rfl rfl rfl rfl ?_
 | refine sth 114 (fun hb=>hop_fa_fp fd_26_0 rfl (by first | exact Nat.le_of_ble_eq_true rfl | (simp at hb;first | omega | (dsimp only;omega) | (simp <;> omega)) | omega | (dsimp only;omega))) rfl rfl rfl rfl rfl ?_
 first
 | refine hq_g 116 3 114 false _ (fun hb=>HOp.val (v':=intV sx.k) (hol_load ty_3 rfl (by first | exact Nat.le_of_ble_eq_true rfl | (simp at hb;first | omega | (dsimp only;omega) | (simp <;> omega)) | omega | (dsimp only;omega)) (by first | exact Nat.le_of_ble_eq_true rfl | (simp at hb;first | omega | (dsimp only;omega) | (simp <;> omega)) | omega | (dsimp only;omega)) (fun h=>(by first | rfl | cases h))) (rfl)) rfl rfl rfl rfl (pre1 rfl) rfl rfl rfl ?_
 | refine hq_g2 116 3 114 _ _ false _ (fun hb=>HOp.val (v':=intV sx.k) (hol_load ty_3 rfl (by first | exact Nat.le_of_ble_eq_true rfl | (simp at hb;first | omega | (dsimp only;omega) | (simp <;> omega)) | omega | (dsimp only;omega)) (by first | exact Nat.le_of_ble_eq_true rfl | (simp at hb;first | omega | (dsimp only;omega) | (simp <;> omega)) | omega | (dsimp only;omega)) (fun h=>(by first | rfl | cases h))) (rfl)) rfl rfl rfl rfl (pre1 rfl) rfl rfl rfl ?_
 | refine stg 114 (fun hb=>HOp.val (v':=intV sx.k) (hop_load_fp ty_3 rfl (by first | exact Nat.le_of_ble_eq_true rfl | (simp at hb;first | omega | (dsimp only;omega) | (simp <;> omega)) | omega | (dsimp only;omega)) (fun h=>(by first | rfl | cases h))) (rfl)) rfl rfl rfl rfl rfl ?_
 | refine sth 114 (fun hb=>HOp.val (v':=intV sx.k) (hop_load_fp ty_3 rfl (by first | exact Nat.le_of_ble_eq_true rfl | (simp at hb;first | omega | (dsimp only;omega) | (simp <;> omega)) | omega | (dsimp only;omega)) (fun h=>(by first | rfl | cases h))) (rfl)) rfl rfl rfl rfl rfl ?_
 first
 | refine stg 114 (fun hb=>hop_eql rfl rfl) rfl rfl rfl rfl rfl ?_
 | refine sth 114 (fun hb=>hop_eql rfl rfl) rfl rfl rfl rfl rfl ?_
 first
 | refine hq_p 118 (hstep_and _ _ rfl rfl rfl) rfl rfl rfl ?_
 | refine hq_p 118 (hstep_or _ _ rfl rfl rfl) rfl rfl rfl ?_
 | refine hq_p 118 (hstep_ite _ _ _ rfl rfl rfl) rfl rfl rfl ?_
 | refine hq_p 118 (hstep_pick _ _ _ _ rfl rfl rfl (fun _=>.refl _) (fun _=>.refl _)) rfl rfl rfl ?_
 refine sm ?_
 first
 | refine stg 119 (fun hb=>hop_fa fd_93_0 rfl) rfl rfl rfl rfl rfl ?_
 | refine sth 119 (fun hb=>hop_fa fd_93_0 rfl) rfl rfl rfl rfl rfl ?_
 | refine stg 119 (fun hb=>hop_fa_fp fd_93_0 rfl (by first | exact Nat.le_of_ble_eq_true rfl | (simp at hb;first | omega | (dsimp only;omega) | (simp <;> omega)) | omega | (dsimp only;omega))) rfl rfl rfl rfl rfl ?_
 | refine sth 119 (fun hb=>hop_fa_fp fd_93_0 rfl (by first | exact Nat.le_of_ble_eq_true rfl | (simp at hb;first | omega | (dsimp only;omega) | (simp <;> omega)) | omega | (dsimp only;omega))) rfl rfl rfl rfl rfl ?_
 first
 | refine hq_g 121 8 119 true _ (fun hb=>HOp.val (v':=intV ((routeV L mir) sx.t (-1)).1.pos) (hol_load ty_3 rfl (by first | exact Nat.le_of_ble_eq_true rfl | (simp at hb;first | omega | (dsimp only;omega) | (simp <;> omega)) | omega | (dsimp only;omega)) (by first | exact Nat.le_of_ble_eq_true rfl | (simp at hb;first | omega | (dsimp only;omega) | (simp <;> omega)) | omega | (dsimp only;omega)) (fun h=>(by first | rfl | cases h))) (rfl)) rfl rfl rfl rfl (pre1 rfl) rfl rfl rfl ?_
 | refine hq_g2 121 8 119 _ _ true _ (fun hb=>HOp.val (v':=intV ((routeV L mir) sx.t (-1)).1.pos) (hol_load ty_3 rfl (by first | exact Nat.le_of_ble_eq_true rfl | (simp at hb;first | omega | (dsimp only;omega) | (simp <;> omega)) | omega | (dsimp only;omega)) (by first | exact Nat.le_of_ble_eq_true rfl | (simp at hb;first | omega | (dsimp only;omega) | (simp <;> omega)) | omega | (dsimp only;omega)) (fun h=>(by first | rfl | cases h))) (rfl)) rfl rfl rfl rfl (pre1 rfl) rfl rfl rfl ?_
 | refine stg 119 (fun hb=>HOp.val (v':=intV ((routeV L mir) sx.t (-1)).1.pos) (hop_load_fp ty_3 rfl (by first | exact Nat.le_of_ble_eq_true rfl | (simp at hb;first | omega | (dsimp only;omega) | (simp <;> omega)) | omega | (dsimp only;omega)) (fun h=>(by first | rfl | cases h))) (rfl)) rfl rfl rfl rfl rfl ?_
 | refine sth 119 (fun hb=>HOp.val (v':=intV ((routeV L mir) sx.t (-1)).1.pos) (hop_load_fp ty_3 rfl (by first | exact Nat.le_of_ble_eq_true rfl | (simp at hb;first | omega | (dsimp only;omega) | (simp <;> omega)) | omega | (dsimp only;omega)) (fun h=>(by first | rfl | cases h))) (rfl)) rfl rfl rfl rfl rfl ?_
 first
 | refine stg 119 (fun hb=>hop_fa fd_26_1 rfl) rfl rfl rfl rfl rfl ?_
 | refine sth 119 (fun hb=>hop_fa fd_26_1 rfl) rfl rfl rfl rfl rfl ?_
 | refine stg 119 (fun hb=>hop_fa_fp fd_26_1 rfl (by first | exact Nat.le_of_ble_eq_true rfl | (simp at hb;first | omega | (dsimp only;omega) | (simp <;> omega)) | omega | (dsimp only;omega))) rfl rfl rfl rfl rfl ?_
 | refine sth 119 (fun hb=>hop_fa_fp fd_26_1 rfl (by first | exact Nat.le_of_ble_eq_true rfl | (simp at hb;first | omega | (dsimp only;omega) | (simp <;> omega)) | omega | (dsimp only;omega))) rfl rfl rfl rfl rfl ?_
 first
 | refine hq_g 123 8 119 true _ (fun hb=>HOp.val (v':=intV ((routeV L mir) sx.f 1).1.pos) (hol_load ty_3 rfl (by first | exact Nat.le_of_ble_eq_true rfl | (simp at hb;first | omega | (dsimp only;omega) | (simp <;> omega)) | omega | (dsimp only;omega)) (by first | exact Nat.le_of_ble_eq_true rfl | (simp at hb;first | omega | (dsimp only;omega) | (simp <;> omega)) | omega | (dsimp only;omega)) (fun h=>(by first | rfl | cases h))) (rfl)) rfl rfl rfl rfl (pre1 rfl) rfl rfl rfl ?_
 | refine hq_g2 123 8 119 _ _ true _ (fun hb=>HOp.val (v':=intV ((routeV L mir) sx.f 1).1.pos) (hol_load ty_3 rfl (by first | exact Nat.le_of_ble_eq_true rfl | (simp at hb;first | omega | (dsimp only;omega) | (simp <;> omega)) | omega | (dsimp only;omega)) (by first | exact Nat.le_of_ble_eq_true rfl | (simp at hb;first | omega | (dsimp only;omega) | (simp <;> omega)) | omega | (dsimp only;omega)) (fun h=>(by first | rfl | cases h))) (rfl)) rfl rfl rfl rfl (pre1 rfl) rfl rfl rfl ?_
 | refine stg 119 (fun hb=>HOp.val (v':=intV ((routeV L mir) sx.f 1).1.pos) (hop_load_fp ty_3 rfl (by first | exact Nat.le_of_ble_eq_true rfl | (simp at hb;first | omega | (dsimp only;omega) | (simp <;> omega)) | omega | (dsimp only;omega)) (fun h=>(by first | rfl | cases h))) (rfl)) rfl rfl rfl rfl rfl ?_
 | refine sth 119 (fun hb=>HOp.val (v':=intV ((routeV L mir) sx.f 1).1.pos) (hop_load_fp ty_3 rfl (by first | exact Nat.le_of_ble_eq_true rfl | (simp at hb;first | omega | (dsimp only;omega) | (simp <;> omega)) | omega | (dsimp only;omega)) (fun h=>(by first | rfl | cases h))) (rfl)) rfl rfl rfl rfl rfl ?_
 first
 | refine stg 119 (fun hb=>hop_leq rfl rfl) rfl rfl rfl rfl rfl ?_
 | refine sth 119 (fun hb=>hop_leq rfl rfl) rfl rfl rfl rfl rfl ?_
 first
 | refine hq_p 125 (hstep_and _ _ rfl rfl rfl) rfl rfl rfl ?_
 | refine hq_p 125 (hstep_or _ _ rfl rfl rfl) rfl rfl rfl ?_
 | refine hq_p 125 (hstep_ite _ _ _ rfl rfl rfl) rfl rfl rfl ?_
 | refine hq_p 125 (hstep_pick _ _ _ _ rfl rfl rfl (fun _=>.refl _) (fun _=>.refl _)) rfl rfl rfl ?_
 refine nu ?_
 refine h31 _ ?_
 refine wc (fun hc4=>?_) (fun hc4=>?_)
 ·have hr4:=hc4;(try simp only [hcs,Int.reduceToNat] at hc4)
  have hn:¬ ((kV (routeV L mir) sx).1=true∧(kV (routeV L mir) sx).2.2=false∧(kV (routeV L mir) sx).2.1.shape=true):=(by have h9:=hr4;simp at h9;rw [kV3 h9.1];rintro ⟨h1,h2,h3⟩;simp at h1;omega)
  refine srg fun N h32=>?_
  first
  | refine hq_ 126 (hol_load ty_26 rfl (by first | exact Nat.le_of_ble_eq_true rfl | omega | (dsimp only;omega) | (simp <;> omega)) (by first | exact Nat.le_of_ble_eq_true rfl | omega | (dsimp only;omega) | (simp <;> omega)) (fun h=>(by first | rfl | cases h))) rfl rfl (pre1 rfl) rfl rfl ?_
  | refine hq_ 126 (hop_load_fp ty_26 rfl (by first | exact Nat.le_of_ble_eq_true rfl | omega | (dsimp only;omega) | (simp <;> omega)) (fun h=>(by first | rfl | cases h))) rfl rfl pre0 rfl rfl ?_
  first
  | refine hm_s1 (hol_storeW ty_26 rfl rfl rfl rfl) rfl rfl (pre1 rfl) (c':=14) rfl ?_
  | refine hm_s1 (hol_store ty_26 rfl rfl rfl rfl (by first | exact Nat.le_of_ble_eq_true rfl | omega | (dsimp only;omega) | (simp <;> omega)) (by first | exact Nat.le_of_ble_eq_true rfl | omega | (dsimp only;omega) | (simp <;> omega)) (by first | exact Nat.le_of_ble_eq_true rfl | omega | (dsimp only;omega) | (simp <;> omega))) rfl rfl (pre1 rfl) (c':=14) rfl ?_
  refine sa<|snl h32<|hw_ret<|hq_then_ret ?_
  refine hq_ret2 rfl (rvl_cell rfl rfl ty_26 rqc rfl rfl) (rval_tmp rfl) [] rfl pre0 ?_
  rw [byV_no hn];exact fz_t2 (fz_agg10 fzc fzc fzc fzc fzc fzc fzc fzc fzc fzc) (.imm _)
 have hr4:=hc4;(try simp only [hcs,Int.reduceToNat] at hc4)
 refine hw_skip<|h30 _<|hw_seq fun Nh33 h33=>srg fun N h34=>?_
 first
 | refine hq_ 127 (hop_fa fd_26_0 rfl) rfl rfl pre0 rfl rfl ?_
 | refine hq_ 127 (hop_fa_fp fd_26_0 rfl (by first | exact Nat.le_of_ble_eq_true rfl | omega | (dsimp only;omega) | (simp <;> omega))) rfl rfl pre0 rfl rfl ?_
 first
 | refine hq_ 128 (HOp.val (v':=intV sx.k) (hol_load ty_3 rfl (by first | exact Nat.le_of_ble_eq_true rfl | omega | (dsimp only;omega) | (simp <;> omega)) (by first | exact Nat.le_of_ble_eq_true rfl | omega | (dsimp only;omega) | (simp <;> omega)) (fun h=>(by first | rfl | cases h))) (rfl)) rfl rfl (pre1 rfl) rfl rfl ?_
 | refine hq_ 128 (HOp.val (v':=intV sx.k) (hop_load_fp ty_3 rfl (by first | exact Nat.le_of_ble_eq_true rfl | omega | (dsimp only;omega) | (simp <;> omega)) (fun h=>(by first | rfl | cases h))) (rfl)) rfl rfl pre0 rfl rfl ?_
 refine s0 hqi ?_
 refine snl h34 ?_
 refine wc (fun hc5=>?_) (fun hc5=>?_)
 ·have hr5:=hc5;(try simp only [hcs,Int.reduceToNat] at hc5)
  have k5:sx.k=5:=hc5
  refine srg fun N h35=>?_
  first
  | refine hq_ 130 (hop_fa fd_26_1 rfl) rfl rfl pre0 rfl rfl ?_
  | refine hq_ 130 (hop_fa_fp fd_26_1 rfl (by first | exact Nat.le_of_ble_eq_true rfl | omega | (dsimp only;omega) | (simp <;> omega))) rfl rfl pre0 rfl rfl ?_
  first
  | refine hq_ 131 (HOp.val (v':=intV ((routeV L mir) sx.f 1).1.pos) (hol_load ty_3 rfl (by first | exact Nat.le_of_ble_eq_true rfl | omega | (dsimp only;omega) | (simp <;> omega)) (by first | exact Nat.le_of_ble_eq_true rfl | omega | (dsimp only;omega) | (simp <;> omega)) (fun h=>(by first | rfl | cases h))) (rfl)) rfl rfl (pre1 rfl) rfl rfl ?_
  | refine hq_ 131 (HOp.val (v':=intV ((routeV L mir) sx.f 1).1.pos) (hop_load_fp ty_3 rfl (by first | exact Nat.le_of_ble_eq_true rfl | omega | (dsimp only;omega) | (simp <;> omega)) (fun h=>(by first | rfl | cases h))) (rfl)) rfl rfl pre0 rfl rfl ?_
  first
  | refine hq_ 132 (hop_fa fd_26_2 rfl) rfl rfl pre0 rfl rfl ?_
  | refine hq_ 132 (hop_fa_fp fd_26_2 rfl (by first | exact Nat.le_of_ble_eq_true rfl | omega | (dsimp only;omega) | (simp <;> omega))) rfl rfl pre0 rfl rfl ?_
  first
  | refine hq_ 133 (HOp.val (v':=intV sx.t) (hol_load ty_3 rfl (by first | exact Nat.le_of_ble_eq_true rfl | omega | (dsimp only;omega) | (simp <;> omega)) (by first | exact Nat.le_of_ble_eq_true rfl | omega | (dsimp only;omega) | (simp <;> omega)) (fun h=>(by first | rfl | cases h))) (rfl)) rfl rfl (pre1 rfl) rfl rfl ?_
  | refine hq_ 133 (HOp.val (v':=intV sx.t) (hop_load_fp ty_3 rfl (by first | exact Nat.le_of_ble_eq_true rfl | omega | (dsimp only;omega) | (simp <;> omega)) (fun h=>(by first | rfl | cases h))) (rfl)) rfl rfl pre0 rfl rfl ?_
  first
  | refine hq_ 134 (hop_addi rfl rfl rfl (by first | exact Nat.le_of_ble_eq_true rfl | omega | (dsimp only;omega) | (simp <;> omega)) (by first | exact Nat.le_of_ble_eq_true rfl | omega | (dsimp only;omega) | (simp <;> omega))) rfl rfl pre0 rfl rfl ?_
  | refine hq_ 134 (hop_add rfl rfl) rfl rfl pre0 rfl rfl ?_
  first
  | refine hq_ 135 (hop_fa fd_26_1 rfl) rfl rfl pre0 rfl rfl ?_
  | refine hq_ 135 (hop_fa_fp fd_26_1 rfl (by first | exact Nat.le_of_ble_eq_true rfl | omega | (dsimp only;omega) | (simp <;> omega))) rfl rfl pre0 rfl rfl ?_
  first
  | refine hq_ 136 (HOp.val (v':=intV sx.f) (hol_load ty_3 rfl (by first | exact Nat.le_of_ble_eq_true rfl | omega | (dsimp only;omega) | (simp <;> omega)) (by first | exact Nat.le_of_ble_eq_true rfl | omega | (dsimp only;omega) | (simp <;> omega)) (fun h=>(by first | rfl | cases h))) (rfl)) rfl rfl (pre1 rfl) rfl rfl ?_
  | refine hq_ 136 (HOp.val (v':=intV sx.f) (hop_load_fp ty_3 rfl (by first | exact Nat.le_of_ble_eq_true rfl | omega | (dsimp only;omega) | (simp <;> omega)) (fun h=>(by first | rfl | cases h))) (rfl)) rfl rfl pre0 rfl rfl ?_
  first
  | refine hq_ 137 (hop_subi rfl rfl rfl (by first | exact Nat.le_of_ble_eq_true rfl | omega | (dsimp only;omega) | (simp <;> omega)) (by first | exact Nat.le_of_ble_eq_true rfl | omega | (dsimp only;omega) | (simp <;> omega))) rfl rfl pre0 rfl rfl ?_
  | refine hq_ 137 (hop_sub rfl rfl) rfl rfl pre0 rfl rfl ?_
  first
  | refine hq_ 138 (hop_fa fd_26_2 rfl) rfl rfl pre0 rfl rfl ?_
  | refine hq_ 138 (hop_fa_fp fd_26_2 rfl (by first | exact Nat.le_of_ble_eq_true rfl | omega | (dsimp only;omega) | (simp <;> omega))) rfl rfl pre0 rfl rfl ?_
  first
  | refine hm_s1 (hol_storeW ty_3 rfl rfl rfl rfl) rfl rfl (pre1 rfl) (c':=14) rfl ?_
  | refine hm_s1 (hol_store ty_3 rfl rfl rfl rfl (by first | exact Nat.le_of_ble_eq_true rfl | omega | (dsimp only;omega) | (simp <;> omega)) (by first | exact Nat.le_of_ble_eq_true rfl | omega | (dsimp only;omega) | (simp <;> omega)) (by first | exact Nat.le_of_ble_eq_true rfl | omega | (dsimp only;omega) | (simp <;> omega))) rfl rfl (pre1 rfl) (c':=14) rfl ?_
  refine snl h35<|srg fun N h36=>?_
  first
  | refine hq_ 139 (hol_load ty_26 rfl (by first | exact Nat.le_of_ble_eq_true rfl | omega | (dsimp only;omega) | (simp <;> omega)) (by first | exact Nat.le_of_ble_eq_true rfl | omega | (dsimp only;omega) | (simp <;> omega)) (fun h=>(by first | rfl | cases h))) rfl rfl (pre1 rfl) rfl rfl ?_
  | refine hq_ 139 (hop_load_fp ty_26 rfl (by first | exact Nat.le_of_ble_eq_true rfl | omega | (dsimp only;omega) | (simp <;> omega)) (fun h=>(by first | rfl | cases h))) rfl rfl pre0 rfl rfl ?_
  first
  | refine hq_ 140 (hol_load ty_47 rfl (by first | exact Nat.le_of_ble_eq_true rfl | omega | (dsimp only;omega) | (simp <;> omega)) (by first | exact Nat.le_of_ble_eq_true rfl | omega | (dsimp only;omega) | (simp <;> omega)) (fun h=>(by first | rfl | cases h))) rfl rfl (pre1 rfl) rfl rfl ?_
  | refine hq_ 140 (hop_load_fp ty_47 rfl (by first | exact Nat.le_of_ble_eq_true rfl | omega | (dsimp only;omega) | (simp <;> omega)) (fun h=>(by first | rfl | cases h))) rfl rfl pre0 rfl rfl ?_
  first
  | refine hq_ 141 (hop_fa fd_26_1 rfl) rfl rfl pre0 rfl rfl ?_
  | refine hq_ 141 (hop_fa_fp fd_26_1 rfl (by first | exact Nat.le_of_ble_eq_true rfl | omega | (dsimp only;omega) | (simp <;> omega))) rfl rfl pre0 rfl rfl ?_
  first
  | refine hq_ 142 (HOp.val (v':=intV ((routeV L mir) sx.f 1).1.pos) (hol_load ty_3 rfl (by first | exact Nat.le_of_ble_eq_true rfl | omega | (dsimp only;omega) | (simp <;> omega)) (by first | exact Nat.le_of_ble_eq_true rfl | omega | (dsimp only;omega) | (simp <;> omega)) (fun h=>(by first | rfl | cases h))) (rfl)) rfl rfl (pre1 rfl) rfl rfl ?_
  | refine hq_ 142 (HOp.val (v':=intV ((routeV L mir) sx.f 1).1.pos) (hop_load_fp ty_3 rfl (by first | exact Nat.le_of_ble_eq_true rfl | omega | (dsimp only;omega) | (simp <;> omega)) (fun h=>(by first | rfl | cases h))) (rfl)) rfl rfl pre0 rfl rfl ?_
  refine s0 (hop_call0 (xs:=[_,_,_]) (row26_h L mir hL hok sx ((routeV L mir) sx.f 1).1.pos om om) ⟨rfl,⟨rfl,⟨rfl,trivial⟩⟩⟩ ⟨fe,⟨fe,⟨fe,trivial⟩⟩⟩) ?_
  refine s0 (hop_not rfl) ?_
  refine snl h36 ?_
  refine wc (fun hc6=>?_) (fun hc6=>?_)
  ·have hr6:=hc6;(try simp only [hcs,Int.reduceToNat] at hc6)
   have hn:¬ ((kV (routeV L mir) sx).1=true∧(kV (routeV L mir) sx).2.2=false∧(kV (routeV L mir) sx).2.1.shape=true):=(by rw [kV5 k5];rintro ⟨h1,h2,h3⟩;have h9:=(rowD_iff _ _ _ _).1 ⟨h1,h2⟩;simp [h9] at hr6)
   refine srg fun N h37=>?_
   first
   | refine hq_ 145 (hol_load ty_26 rfl (by first | exact Nat.le_of_ble_eq_true rfl | omega | (dsimp only;omega) | (simp <;> omega)) (by first | exact Nat.le_of_ble_eq_true rfl | omega | (dsimp only;omega) | (simp <;> omega)) (fun h=>(by first | rfl | cases h))) rfl rfl (pre1 rfl) rfl rfl ?_
   | refine hq_ 145 (hop_load_fp ty_26 rfl (by first | exact Nat.le_of_ble_eq_true rfl | omega | (dsimp only;omega) | (simp <;> omega)) (fun h=>(by first | rfl | cases h))) rfl rfl pre0 rfl rfl ?_
   first
   | refine hm_s1 (hol_storeW ty_26 rfl rfl rfl rfl) rfl rfl (pre1 rfl) (c':=15) rfl ?_
   | refine hm_s1 (hol_store ty_26 rfl rfl rfl rfl (by first | exact Nat.le_of_ble_eq_true rfl | omega | (dsimp only;omega) | (simp <;> omega)) (by first | exact Nat.le_of_ble_eq_true rfl | omega | (dsimp only;omega) | (simp <;> omega)) (by first | exact Nat.le_of_ble_eq_true rfl | omega | (dsimp only;omega) | (simp <;> omega))) rfl rfl (pre1 rfl) (c':=15) rfl ?_
   refine sa<|snl h37<|hw_ret<|hq_then_ret ?_
   refine hq_ret2 rfl (rvl_cell rfl rfl ty_26 rqc rfl rfl) (rval_tmp rfl) [] rfl pre0 ?_
   rw [byV_no hn];exact fz_t2 (fz_agg10 fzc fzc fzc fzc fzc fzc fzc fzc fzc fzc) (.imm _)
  have hr6:=hc6;(try simp only [hcs,Int.reduceToNat] at hc6)
  have hy:(kV (routeV L mir) sx).1=true∧(kV (routeV L mir) sx).2.2=false:=(by rw [kV5 k5];exact (rowD_iff _ _ _ _).2 (by simpa using hr6))
  refine hw_skip<|h33 _<|hw_seq fun Nh38 h38=>hw_seq fun Nh39 h39=>?_
  have ho:(kV (routeV L mir) sx).2.1=(outV (routeV L mir) sx).mv (outV (routeV L mir) sx).f (((routeV L mir) sx.f 1).1.pos+sx.t - sx.f) sx.gf sx.gt:=(by rw [kV5 k5])
  refine hw_region ?_
  first
  | refine hq_ 146 (hol_load ty_26 rfl (by first | exact Nat.le_of_ble_eq_true rfl | omega | (dsimp only;omega) | (simp <;> omega)) (by first | exact Nat.le_of_ble_eq_true rfl | omega | (dsimp only;omega) | (simp <;> omega)) (fun h=>(by first | rfl | cases h))) rfl rfl (pre1 rfl) rfl rfl ?_
  | refine hq_ 146 (hop_load_fp ty_26 rfl (by first | exact Nat.le_of_ble_eq_true rfl | omega | (dsimp only;omega) | (simp <;> omega)) (fun h=>(by first | rfl | cases h))) rfl rfl pre0 rfl rfl ?_
  refine s0 (hop_call0 (xs:=[_]) (shape25_h ((outV (routeV L mir) sx).mv (outV (routeV L mir) sx).f (((routeV L mir) sx.f 1).1.pos+sx.t - sx.f) sx.gf sx.gt) (by show sx.sl.length≤_;omega) (by show sx.sets.length≤_;omega)) ⟨rfl,trivial⟩ ⟨(fz_agg10 fzc fzc fzc fzc fzc fzc fzc fzc (by exact fz_toks sx.sl) (by exact fz_mkss sx.sets)),trivial⟩) ?_
  refine s0 (hop_not rfl) ?_
  refine snl h39 ?_
  refine wc (fun hc7=>?_) (fun hc7=>?_)
  ·have hr7:=hc7;(try simp only [hcs,Int.reduceToNat] at hc7)
   refine srg fun N h40=>?_
   first
   | refine hq_ 149 (hol_load ty_26 rfl (by first | exact Nat.le_of_ble_eq_true rfl | omega | (dsimp only;omega) | (simp <;> omega)) (by first | exact Nat.le_of_ble_eq_true rfl | omega | (dsimp only;omega) | (simp <;> omega)) (fun h=>(by first | rfl | cases h))) rfl rfl (pre1 rfl) rfl rfl ?_
   | refine hq_ 149 (hop_load_fp ty_26 rfl (by first | exact Nat.le_of_ble_eq_true rfl | omega | (dsimp only;omega) | (simp <;> omega)) (fun h=>(by first | rfl | cases h))) rfl rfl pre0 rfl rfl ?_
   first
   | refine hm_s1 (hol_storeW ty_26 rfl rfl rfl rfl) rfl rfl (pre1 rfl) (c':=15) rfl ?_
   | refine hm_s1 (hol_store ty_26 rfl rfl rfl rfl (by first | exact Nat.le_of_ble_eq_true rfl | omega | (dsimp only;omega) | (simp <;> omega)) (by first | exact Nat.le_of_ble_eq_true rfl | omega | (dsimp only;omega) | (simp <;> omega)) (by first | exact Nat.le_of_ble_eq_true rfl | omega | (dsimp only;omega) | (simp <;> omega))) rfl rfl (pre1 rfl) (c':=15) rfl ?_
   refine sa<|snl h40<|hw_ret<|hq_then_ret ?_
   refine hq_ret2 rfl (rvl_cell rfl rfl ty_26 rqc rfl rfl) (rval_tmp rfl) [] rfl pre0 ?_
   rw [byV_no (fun h=>by rw [ho] at h;simp [h.2.2] at hr7)];exact fz_t2 (fz_agg10 fzc fzc fzc fzc fzc fzc fzc fzc fzc fzc) (.imm _)
  have hr7:=hc7;(try simp only [hcs,Int.reduceToNat] at hc7)
  refine hw_skip<|h38 _<|srg fun N h41=>?_
  first
  | refine hq_ 150 (hol_load ty_26 rfl (by first | exact Nat.le_of_ble_eq_true rfl | omega | (dsimp only;omega) | (simp <;> omega)) (by first | exact Nat.le_of_ble_eq_true rfl | omega | (dsimp only;omega) | (simp <;> omega)) (fun h=>(by first | rfl | cases h))) rfl rfl (pre1 rfl) rfl rfl ?_
  | refine hq_ 150 (hop_load_fp ty_26 rfl (by first | exact Nat.le_of_ble_eq_true rfl | omega | (dsimp only;omega) | (simp <;> omega)) (fun h=>(by first | rfl | cases h))) rfl rfl pre0 rfl rfl ?_
  first
  | refine hm_s1 (hol_storeW ty_26 rfl rfl rfl rfl) rfl rfl (pre1 rfl) (c':=15) rfl ?_
  | refine hm_s1 (hol_store ty_26 rfl rfl rfl rfl (by first | exact Nat.le_of_ble_eq_true rfl | omega | (dsimp only;omega) | (simp <;> omega)) (by first | exact Nat.le_of_ble_eq_true rfl | omega | (dsimp only;omega) | (simp <;> omega)) (by first | exact Nat.le_of_ble_eq_true rfl | omega | (dsimp only;omega) | (simp <;> omega))) rfl rfl (pre1 rfl) (c':=15) rfl ?_
  refine sa<|snl h41<|hw_ret ?_
  refine hq_ret2 rfl (rvl_cell rfl rfl ty_26 rqc rfl rfl) (rval_tmp rfl) [] rfl pre0 ?_
  rw [byV_yes hs hg ⟨hy.1,hy.2,by rw [ho];simpa using hr7⟩,ho];exact fz_t2 (fz_agg10 fzc fzc fzc fzc fzc fzc fzc fzc (by exact fz_toks sx.sl) (by exact fz_mkss sx.sets)) (.imm _)
 have hr5:=hc5;(try simp only [hcs,Int.reduceToNat] at hc5)
 have hk1:(kV (routeV L mir) sx)=(true,outV (routeV L mir) sx,false):=(by by_cases h3:sx.k=3∨sx.k=4;(rw [kV3 h3];have h9:=hr4;simp at h9;have h8:=h9 h3;rw [decide_eq_true om]);exact kV1 om h3 om);have hy:(kV (routeV L mir) sx).1=true∧(kV (routeV L mir) sx).2.2=false:=(by rw [hk1];exact ⟨rfl,rfl⟩)
 refine hw_skip<|h33 _<|hw_seq fun Nh42 h42=>hw_seq fun Nh43 h43=>?_
 have ho:(kV (routeV L mir) sx).2.1=outV (routeV L mir) sx:=(by rw [hk1])
 refine hw_region ?_
 first
 | refine hq_ 146 (hol_load ty_26 rfl (by first | exact Nat.le_of_ble_eq_true rfl | omega | (dsimp only;omega) | (simp <;> omega)) (by first | exact Nat.le_of_ble_eq_true rfl | omega | (dsimp only;omega) | (simp <;> omega)) (fun h=>(by first | rfl | cases h))) rfl rfl (pre1 rfl) rfl rfl ?_
 | refine hq_ 146 (hop_load_fp ty_26 rfl (by first | exact Nat.le_of_ble_eq_true rfl | omega | (dsimp only;omega) | (simp <;> omega)) (fun h=>(by first | rfl | cases h))) rfl rfl pre0 rfl rfl ?_
 refine s0 (hop_call0 (xs:=[_]) (shape25_h (outV (routeV L mir) sx) (by show sx.sl.length≤_;omega) (by show sx.sets.length≤_;omega)) ⟨rfl,trivial⟩ ⟨(fz_agg10 fzc fzc fzc fzc fzc fzc fzc fzc (by exact fz_toks sx.sl) (by exact fz_mkss sx.sets)),trivial⟩) ?_
 refine s0 (hop_not rfl) ?_
 refine snl h43 ?_
 refine wc (fun hc7=>?_) (fun hc7=>?_)
 ·have hr7:=hc7;(try simp only [hcs,Int.reduceToNat] at hc7)
  refine srg fun N h44=>?_
  first
  | refine hq_ 149 (hol_load ty_26 rfl (by first | exact Nat.le_of_ble_eq_true rfl | omega | (dsimp only;omega) | (simp <;> omega)) (by first | exact Nat.le_of_ble_eq_true rfl | omega | (dsimp only;omega) | (simp <;> omega)) (fun h=>(by first | rfl | cases h))) rfl rfl (pre1 rfl) rfl rfl ?_
  | refine hq_ 149 (hop_load_fp ty_26 rfl (by first | exact Nat.le_of_ble_eq_true rfl | omega | (dsimp only;omega) | (simp <;> omega)) (fun h=>(by first | rfl | cases h))) rfl rfl pre0 rfl rfl ?_
  first
  | refine hm_s1 (hol_storeW ty_26 rfl rfl rfl rfl) rfl rfl (pre1 rfl) (c':=14) rfl ?_
  | refine hm_s1 (hol_store ty_26 rfl rfl rfl rfl (by first | exact Nat.le_of_ble_eq_true rfl | omega | (dsimp only;omega) | (simp <;> omega)) (by first | exact Nat.le_of_ble_eq_true rfl | omega | (dsimp only;omega) | (simp <;> omega)) (by first | exact Nat.le_of_ble_eq_true rfl | omega | (dsimp only;omega) | (simp <;> omega))) rfl rfl (pre1 rfl) (c':=14) rfl ?_
  refine sa<|snl h44<|hw_ret<|hq_then_ret ?_
  refine hq_ret2 rfl (rvl_cell rfl rfl ty_26 rqc rfl rfl) (rval_tmp rfl) [] rfl pre0 ?_
  rw [byV_no (fun h=>by rw [ho] at h;simp [h.2.2] at hr7)];exact fz_t2 (fz_agg10 fzc fzc fzc fzc fzc fzc fzc fzc fzc fzc) (.imm _)
 have hr7:=hc7;(try simp only [hcs,Int.reduceToNat] at hc7)
 refine hw_skip<|h42 _<|srg fun N h45=>?_
 first
 | refine hq_ 150 (hol_load ty_26 rfl (by first | exact Nat.le_of_ble_eq_true rfl | omega | (dsimp only;omega) | (simp <;> omega)) (by first | exact Nat.le_of_ble_eq_true rfl | omega | (dsimp only;omega) | (simp <;> omega)) (fun h=>(by first | rfl | cases h))) rfl rfl (pre1 rfl) rfl rfl ?_
 | refine hq_ 150 (hop_load_fp ty_26 rfl (by first | exact Nat.le_of_ble_eq_true rfl | omega | (dsimp only;omega) | (simp <;> omega)) (fun h=>(by first | rfl | cases h))) rfl rfl pre0 rfl rfl ?_
 first
 | refine hm_s1 (hol_storeW ty_26 rfl rfl rfl rfl) rfl rfl (pre1 rfl) (c':=14) rfl ?_
 | refine hm_s1 (hol_store ty_26 rfl rfl rfl rfl (by first | exact Nat.le_of_ble_eq_true rfl | omega | (dsimp only;omega) | (simp <;> omega)) (by first | exact Nat.le_of_ble_eq_true rfl | omega | (dsimp only;omega) | (simp <;> omega)) (by first | exact Nat.le_of_ble_eq_true rfl | omega | (dsimp only;omega) | (simp <;> omega))) rfl rfl (pre1 rfl) (c':=14) rfl ?_
 refine sa<|snl h45<|hw_ret ?_
 refine hq_ret2 rfl (rvl_cell rfl rfl ty_26 rqc rfl rfl) (rval_tmp rfl) [] rfl pre0 ?_
 rw [byV_yes hs hg ⟨hy.1,hy.2,by rw [ho];simpa using hr7⟩,ho];exact fz_t2 (fz_agg10 fzc fzc fzc fzc fzc fzc fzc fzc (by exact fz_toks sx.sl) (by exact fz_mkss sx.sets)) (.imm _)
section
variable {P:Program} {ov:Nat→Option HV} {g:Nat} {d:Option Tmp} {ty:TypeId} {pos:String} {af:Array Edge} {gd:Option (Nat×Bool)}
theorem hop_invoke0 {f:FuncId} {T:TypeId} {t:Operand} {name:String} {args:List Operand} {at_:Array TypeId} {x r:HV} {xs ys:List HV} (hm:∀ n v w,(method (n+1) T v name).run P w=.ok (f,v) w) (hp:HPure P f ys r) (h0:ovl ov t=some (.ifc T x)) (hx:ovAll ov args xs) (hz:FzAll [] (x::xs) ys) :
    HOp P ⟨d,.call ⟨.invoke t name,args.toArray,at_⟩,ty,pos,af,gd⟩ ov g [] r []:=by
  intro K w0 F0 E hh a w Q N rr ht hG hBd hpre hN
  have hrep:=hx.rep (w:=w) (E:=E) (ρ:=a.eval) (fun x hv hx h=>ht x hv (by simp [Op.operands,Call.operands];exact .inr hx) h)
  have hrec:=ht t _ (by simp [Op.operands,Call.operands]) h0
  unfold Oper.wp execOp
  generalize hρ:a.eval t=u at hrec
  cases hrec with
  | ifc _ v _ hv =>
    have hargs:#[v]++args.toArray.map a.eval=(v::args.map a.eval).toArray:=by simp
    have hext:(#[Value.iface T v]++args.toArray.map a.eval).extract 1 (#[Value.iface T v]++args.toArray.map a.eval).size=args.toArray.map a.eval:=by
      apply Array.ext'
      simp [List.take_of_length_le]
    have hget:(#[Value.iface T v]++args.toArray.map a.eval)[0]?=some (Value.iface T v):=by simp
    have hdep:P.types.size+Made.depth=(P.types.size+(Made.depth - 1))+1:=by unfold Made.depth;rfl
    have hrun:(callMethod (Value.iface T v) name (args.toArray.map a.eval)).run P w=.ok (.enter f (v::args.map a.eval).toArray) w:=by
      unfold callMethod
      have hprog:(program).run P w=.ok P w:=rfl
      simp only [Sem.run_bind,hprog,Result.andThen_ok,hdep,hm,hargs]
      exact run_callFunc hp.1 _ w
    have hdo:(do let dd ←resolve a.eval ⟨.invoke t name,args.toArray,at_⟩ ty;invoke dd.target dd.args:Sem Next).run P w=.ok (.enter f (v::args.map a.eval).toArray) w:=by
      unfold resolve invoke
      simp only [hρ,Sem.run_bind,Sem.run_pure,Result.andThen_ok]
      simp only [hget,hext]
      exact hrun
    have hexec:(execOp a.eval ⟨d,.call ⟨.invoke t name,args.toArray,at_⟩,ty,pos,af,gd⟩).run P w=.ok (.enter f (v::args.map a.eval).toArray) w:=hdo
    unfold execOp at hexec
    rw [hexec]
    simp only [Oper.upon]
    have hc:=hp.calls rr [] rfl hpre (x::xs) (v::args.map a.eval) hz ⟨hv,hrep⟩
    refine Calls.mono hc ?_
    rintro e w' ⟨v,E',rfl,e',r',hg',hv⟩
    exact hN v w' E' e' r' (fun g' h=>.inl (hg' g' h)) hv
theorem hop_eql_bn {x y:Operand} {T yT:TypeId} {f:Fn} {h:HV} (hT:∀ (f:Fn) (t b:Array Value) (w:World),(binOp .eql T (.func f t b) .nilFunc).run P w=.ok (.bool false) w) (h1:ovl ov x=some (.bnd f h)) (h2:ovl ov y=some (.imm .nilFunc)):HOp P ⟨d,.binOp .eql T x y yT,ty,pos,af,gd⟩ ov g [] (.imm (.bool false)) [] :=
  hop_pure fun w E ρ hr=>by
    have h:=hr x _ (by simp [Op.operands]) h1
    have e2:=Rep.imm_inv (hr y _ (by simp [Op.operands]) h2)
    generalize hρ:ρ x=u at h
    cases h with
    | bnd _ v _ hv =>
      refine ⟨.bool false,?_,.imm _⟩
      have e:=hT f #[v] #[] w
      simp [execOp,hρ,e2,eqGuard,e]
def flOf (P:Program) (T:TypeId) (k:Nat):Option Nat :=
  match P.underlying T with
  | some (.struct fs) => (fs[k]?).bind fun f => match P.underlying f.type with
    | some (.struct _)=>none
    | some (.array _ _)=>none
    | some _=>some f.offset
    | none=>none
  | _=>none
theorem flOf_spec {T:TypeId} {k fo:Nat} (h:flOf P T k=some fo) (cs:Array Value) (v:Value) (hv:cs[fo]?=some v) (w:World):(Instr.field T (.agg cs) k).run P w=.ok v w:=by
 unfold flOf at h
 split at h
 ·rename_i fs hu
  obtain ⟨f,hf,h⟩:=Option.bind_eq_some_iff.1 h
  have key:∀ b,P.underlying f.type=some b→(match b with | .struct _=>true | .array _ _=>true | _=>false)=false→fo=f.offset→(Instr.field T (.agg cs) k).run P w=.ok v w:=by
   intro b hb hn ho
   subst ho
   have ha:(isAgg f.type).run P w=.ok false w:=by
    unfold isAgg
    rw [Sem.run_bind,run_underlying hb]
    cases b <;> first | rfl | cases hn
   simp [Instr.field,run_underlying hu,hf,asAgg,part,Sem.run_bind,ha,hv]
  split at h
  ·cases h
  ·cases h
  ·rename_i b hns hna hb
   injection h with h
   exact key b hb (by cases b <;> first | rfl | exact absurd rfl (hns _) | exact absurd rfl (hna _ _)) h.symm
  ·cases h
 ·cases h
theorem hop_field {n k fo:Nat} {T:TypeId} {x:Operand} {f:Nat→HV} (hT:flOf P T k=some fo) (h1:ovl ov x=some (.agg n f)) (hn:fo < n):HOp P ⟨d,.field T x k,ty,pos,af,gd⟩ ov g [] (f fo) [] :=
  hop_pure fun w E ρ hr=>by
    have h:=hr x _ (by simp [Op.operands]) h1
    generalize hρ:ρ x=u at h
    cases h with
    | agg cs _ _ vs hn' hv h =>
      exact ⟨vs fo,by simp only [execOp,hρ,flOf_spec hT cs (vs fo) (hv fo hn).1 w,Sem.run_bind,Sem.run_pure,Result.andThen_ok],h fo hn⟩
end
section
variable {P:Program} {ops:Array Oper} {g:Nat}
theorem hstep_known {o:Oper} {tm:Nat→Option TV} {pre post:List (Nat×HObj)} {v:HV} (gi j:Nat) (b:Bool) (hg:o.guard=some (gi,b)) (hgi:(ops[gi]?).bind (·.dst)=some j) (hc:tm j=some (.v (.imm (.bool b)))) (h:HOp P o (pview tm) g pre v post):HStep P ops o tm g ⟨.v v,j::ops_tmps o,pre,post⟩:=by
  intro K w0 F0 E hh a w Q N r ht hG hBd hp hN
  have hj:a.tmps.getD j undef=.bool b:=Rep.imm_inv (ht j _ (List.mem_cons_self ..) hc)
  have hwant:Region.wanted o (yielded ops a.tmps)=true:=by
    unfold Region.wanted yielded
    rw [hg]
    simp only [hgi,Option.bind_some]
    by_cases hjs:j < a.tmps.size
    · have e1:a.tmps[j]?=some a.tmps[j]:=Array.getElem?_eq_getElem hjs
      have e2:a.tmps.getD j undef=a.tmps[j]:=by simp [hjs]
      rw [e1,←e2,hj];simp
    · have e2:a.tmps.getD j undef=undef:=by simp [hjs]
      rw [e2] at hj;simp [undef] at hj
  rw [if_pos hwant]
  refine h K w0 F0 E hh a w Q N r (fun x hv hx ho=>?_) hG hBd hp hN
  cases x with
  | tmp t =>
    simp only [ovl,pview] at ho
    split at ho
    · rename_i y hy
      injection ho with ho
      subst ho
      exact ht t _ (List.mem_cons_of_mem _ (mem_tmps hx)) hy
    · cases ho
  | const v=>exact rep_cst w E _ v hv (by exact ho)
  | global g=>injection ho with ho;subst ho;exact .imm _
  | func f=>injection ho with ho;subst ho;exact .fn _ _ 0 _ (fun _=>undef) rfl (fun i hi=>absurd hi (Nat.not_lt_zero _)) (fun i hi=>absurd hi (Nat.not_lt_zero _))
end
section
variable {C:Ctx} {P:Program} {ops:Array Oper} {Q:Exit→Act→World→Prop} {n clk:Nat} {tm:List (Nat×TV)} {hp:List (Nat×HObj)} {rest:List Oper} {o:Oper} {pre post:List (Nat×HObj)} {v:HV}
theorem hq_k (d j:Nat) (b:Bool) (hop:HOp P o (pview (tget tm)) clk pre v []) (hd:o.dst=some d) {gi:Nat} (hg:o.guard=some (gi,b)) (hgi:(ops[gi]?).bind (·.dst)=some j) (hc:tget tm j=some (.v (.imm (.bool b)))) (hpre:∀ p∈pre,hget hp p.1=some p.2) (hlt:Nat.blt d n=true) (hk:nokey tm d=true)
  (h:HSeq C P ops rest ⟨n,(d,.v v)::tm,hp,clk⟩ Q):HSeq C P ops (o::rest) ⟨n,tm,hp,clk⟩ Q :=
 hseq_consq (s:=⟨n,tm,hp,clk⟩) d _ hd rfl (hstep_known gi j b hg hgi hc hop) hpre hlt hk h (fun j' b' x h=>by cases h)
theorem hm_k (d j:Nat) (b:Bool) (hop:HOp P o (pview (tget tm)) clk pre v post) (hd:o.dst=some d) {gi:Nat} (hg:o.guard=some (gi,b)) (hgi:(ops[gi]?).bind (·.dst)=some j) (hc:tget tm j=some (.v (.imm (.bool b)))) (hpre:∀ p∈pre,hget hp p.1=some p.2) (hlt:Nat.blt d n=true) (hk:nokey tm d=true) {c':Nat} (hcc:clk+1=c')
  (h:HSeq C P ops rest ⟨n,(d,.v v)::tm,post++hp,c'⟩ Q):HSeq C P ops (o::rest) ⟨n,tm,hp,clk⟩ Q:=by
 subst hcc;exact hseq_cons (s:=⟨n,tm,hp,clk⟩) d _ hd (hstep_known gi j b hg hgi hc hop) hpre hlt hk h (fun j b x h=>by cases h)
end
section
variable {P:Program} {ov:Nat→Option HV} {g:Nat} {d:Option Tmp} {ty:TypeId} {pos:String} {af:Array Edge} {gd:Option (Nat×Bool)} {x y z:Operand} {hx:HV}
theorem hop_pick_t (h1:ovl ov x=some (.imm (.bool true))) (h2:ovl ov y=some hx):HOp P ⟨d,.pick x y z,ty,pos,af,gd⟩ ov g [] hx [] :=
 hop_pure fun w E ρ hr=>by
  have e1:=Rep.imm_inv (hr x _ (by simp [Op.operands]) h1)
  exact ⟨ρ y,by simp [execOp,e1,asBool],hr y _ (by simp [Op.operands]) h2⟩
theorem hop_pick_f (h1:ovl ov x=some (.imm (.bool false))) (h2:ovl ov z=some hx):HOp P ⟨d,.pick x y z,ty,pos,af,gd⟩ ov g [] hx [] :=
 hop_pure fun w E ρ hr=>by
  have e1:=Rep.imm_inv (hr x _ (by simp [Op.operands]) h1)
  exact ⟨ρ z,by simp [execOp,e1,asBool],hr z _ (by simp [Op.operands]) h2⟩
end
theorem fz2i {sh:List (Nat×HObj)} {f f':Nat→HV} (h0:Fz sh (f 0) (f' 0)) (h1:Fz sh (f 1) (f' 1)):Fz sh (.agg 2 f) (.agg 2 f'):=.agg _ _ _ fun i hi=>by
 match i,hi with
 | 0,_=>exact h0
 | 1,_=>exact h1
theorem fz_rg1 {sh:List (Nat×HObj)} {F:Nat→Nat→HV} {a b c:Int} (h0:F 0 0=intV a) (h1:F 0 1=intV b) (h2:F 0 2=intV c):∀ i j,i < [(⟨a,b,c⟩:Rg)].length→j < 3→Fz sh (F i j) (rgF ([(⟨a,b,c⟩:Rg)].getD i default) j):=fun i j hi hj=>by
 have hi:i < 1:=hi
 obtain rfl:i=0:=by omega
 match j,hj with
 | 0,_=>rw [h0];exact .imm _
 | 1,_=>rw [h1];exact .imm _
 | 2,_=>rw [h2];exact .imm _
theorem fz_rg2 {sh:List (Nat×HObj)} {F:Nat→Nat→HV} {a b c d e f:Int} (h0:F 0 0=intV a) (h1:F 0 1=intV b) (h2:F 0 2=intV c) (h3:F 1 0=intV d) (h4:F 1 1=intV e) (h5:F 1 2=intV f):∀ i j,i < [(⟨a,b,c⟩:Rg),⟨d,e,f⟩].length→j < 3→Fz sh (F i j) (rgF ([(⟨a,b,c⟩:Rg),⟨d,e,f⟩].getD i default) j):=fun i j hi hj=>by
 have hi:i < 2:=hi
 match i,j,hi,hj with
 | 0,0,_,_=>rw [h0];exact .imm _
 | 0,1,_,_=>rw [h1];exact .imm _
 | 0,2,_,_=>rw [h2];exact .imm _
 | 1,0,_,_=>rw [h3];exact .imm _
 | 1,1,_,_=>rw [h4];exact .imm _
 | 1,2,_,_=>rw [h5];exact .imm _
theorem thr26_h' (L:List (List Rg)) (mir:List (Int×Int)) (hL:L.length≤100000) (hok:RtOk L mir) (s:St) (l1:s.sl.length≤20000) (l2:s.sets.length≤20000) {o:Option St} (ho:byV (routeV L mir) s=o):HPure Try.prog 23 [stV s,rt24 L mir] (optV o):=ho▸thr26_h L mir hL hok s l1 l2
theorem over26_h (s:St) (m:List Rg) (l1:s.sl.length≤20000) (l2:s.sets.length≤20000):HPure Try.prog 27 [stV s,rgsV m] (optV (overV s m)):=by
 refine hpure_of Try.func27 rfl kr _ _ _ rfl 18 rfl rfl (fun w F=>?_)
 refine srg fun N h1=>?_
 refine hm_1 2 (hop_box (id:=2) (sz:=10) rfl rfl rfl omx omx) rfl rfl pre0 rfl rfl (c':=1) rfl ?_
 refine hm_1 4 (hop_alloc (id:=4) (sz:=10) zc_26 rfl rfl omx omx) rfl rfl pre0 rfl rfl (c':=2) rfl ?_
 refine sa<|snl h1<|hw_seq fun Nh2 h2=>srg fun N h3=>sm ?_
 refine s0 (hop_call0 (xs:=[_]) (right23_h m) ⟨rfl,trivial⟩ ⟨fe,trivial⟩) ?_
 refine s0 (hop_not rfl) ?_
 refine snl h3 ?_
 refine wc (fun hc0=>?_) (fun hc0=>?_)
 ·have hr0:=hc0;(try simp only [hcs,Int.reduceToNat] at hc0)
  have hn:¬ rightM m=true:=(by simpa using hr0)
  refine srg fun N h4=>?_
  refine s0 (hop_build (hs:=[]) st_26 rfl rfl trivial) ?_
  first
  | refine hm_s1 (hol_storeW ty_26 rfl rfl rfl rfl) rfl rfl (pre1 rfl) (c':=3) rfl ?_
  | refine hm_s1 (hol_store ty_26 rfl rfl rfl rfl (by first | exact Nat.le_of_ble_eq_true rfl | omega | (dsimp only;omega) | (simp <;> omega)) (by first | exact Nat.le_of_ble_eq_true rfl | omega | (dsimp only;omega) | (simp <;> omega)) (by first | exact Nat.le_of_ble_eq_true rfl | omega | (dsimp only;omega) | (simp <;> omega))) rfl rfl (pre1 rfl) (c':=3) rfl ?_
  refine sa<|snl h4<|hw_ret<|hq_then_ret ?_
  refine hq_ret2 rfl (rvl_cell rfl rfl ty_26 rqc rfl rfl) (rval_tmp rfl) [] rfl pre0 ?_
  rw [show overV s m=Option.none from if_neg hn];exact fz_t2 (fz_agg10 fzc fzc fzc fzc fzc fzc fzc fzc fzc fzc) (.imm _)
 have hr0:=hc0;(try simp only [hcs,Int.reduceToNat] at hc0)
 have hm:rightM m=true:=(by simpa using hr0)
 refine hw_skip<|h2 _<|hw_seq fun Nh5 h5=>?_
 rcases hby:byV (routeV [m] []) s with _ | y
 ·skip
  refine hw_region ?_
  first
  | refine hq_ 10 (hol_load ty_26 rfl (by first | exact Nat.le_of_ble_eq_true rfl | omega | (dsimp only;omega) | (simp <;> omega)) (by first | exact Nat.le_of_ble_eq_true rfl | omega | (dsimp only;omega) | (simp <;> omega)) (fun h=>(by first | rfl | cases h))) rfl rfl (pre1 rfl) rfl rfl ?_
  | refine hq_ 10 (hop_load_fp ty_26 rfl (by first | exact Nat.le_of_ble_eq_true rfl | omega | (dsimp only;omega) | (simp <;> omega)) (fun h=>(by first | rfl | cases h))) rfl rfl pre0 rfl rfl ?_
  refine sm ?_
  refine hm_1 12 (hop_buildSlice (id:=12) (hs:=[_]) ei_41 omx rfl omx ⟨rfl,rfl,rfl,rfl,trivial⟩) rfl rfl pre0 rfl rfl (c':=3) rfl ?_
  refine hm_1 13 (hop_buildSlice (id:=13) (hs:=[_]) ei_45 omx rfl omx ⟨rfl,rfl,rfl,rfl,trivial⟩) rfl rfl pre0 rfl rfl (c':=4) rfl ?_
  refine s0 (hop_build (hs:=[(0,1,_),(1,1,_)]) st_47 rfl rfl ⟨rfl,rfl,rfl,rfl,rfl,⟨rfl,rfl,rfl,rfl,rfl,trivial⟩⟩) ?_
  refine hm_ 15 (hop_call (xs:=[_,_]) [(12,_),(13,_)] (thr26_h' [m] [] (by simp) (rtok1 hm) s l1 l2 hby) ⟨rfl,⟨rfl,trivial⟩⟩ ⟨(Fz.eq rfl),⟨(fz2i (Fz.os _ _ _ _ _ _ (List.mem_cons_self ..) rfl (Nat.le_refl _) (fun i j hi hj=>by obtain rfl:i=0:=om;obtain rfl:j=0:=Nat.lt_one_iff.1 hj;exact (show Fz _ (rgsV m) (rgsV m) from Frz.fz))) (Fz.os _ _ _ _ _ _ (List.mem_cons_of_mem _ (List.mem_cons_self ..)) rfl (Nat.le_refl _) (fun i j hi hj=>by obtain rfl:i=0:=om;obtain rfl:j=0:=Nat.lt_one_iff.1 hj;exact (show Fz _ (intV (-1)) (intV (-1)) from .imm _)))),trivial⟩⟩ rfl) rfl rfl (preC rfl (preC rfl pre0)) rfl rfl (c':=5) rfl ?_
  refine s0 hex ?_
  refine s0 hex ?_
  first
  | refine hm_s1 (hol_storeW ty_26 rfl rfl rfl rfl) rfl rfl (pre1 rfl) (c':=6) rfl ?_
  | refine hm_s1 (hol_store ty_26 rfl rfl rfl rfl (by first | exact Nat.le_of_ble_eq_true rfl | omega | (dsimp only;omega) | (simp <;> omega)) (by first | exact Nat.le_of_ble_eq_true rfl | omega | (dsimp only;omega) | (simp <;> omega)) (by first | exact Nat.le_of_ble_eq_true rfl | omega | (dsimp only;omega) | (simp <;> omega))) rfl rfl (pre1 rfl) (c':=6) rfl ?_
  refine sa<|snl h5<|hw_ret ?_
  refine hq_ret2 rfl (rvl_cell rfl rfl ty_26 rqc rfl rfl) (rval_tmp rfl) [] rfl pre0 ?_
  rw [show overV s m=byV (routeV [m] []) s from if_pos hm,hby];exact fz_t2 (fz_agg10 fzc fzc fzc fzc fzc fzc fzc fzc (by exact fz_toks St.none.sl) (by exact fz_mkss St.none.sets)) (.imm _)
 ·skip
  refine hw_region ?_
  first
  | refine hq_ 10 (hol_load ty_26 rfl (by first | exact Nat.le_of_ble_eq_true rfl | omega | (dsimp only;omega) | (simp <;> omega)) (by first | exact Nat.le_of_ble_eq_true rfl | omega | (dsimp only;omega) | (simp <;> omega)) (fun h=>(by first | rfl | cases h))) rfl rfl (pre1 rfl) rfl rfl ?_
  | refine hq_ 10 (hop_load_fp ty_26 rfl (by first | exact Nat.le_of_ble_eq_true rfl | omega | (dsimp only;omega) | (simp <;> omega)) (fun h=>(by first | rfl | cases h))) rfl rfl pre0 rfl rfl ?_
  refine sm ?_
  refine hm_1 12 (hop_buildSlice (id:=12) (hs:=[_]) ei_41 omx rfl omx ⟨rfl,rfl,rfl,rfl,trivial⟩) rfl rfl pre0 rfl rfl (c':=3) rfl ?_
  refine hm_1 13 (hop_buildSlice (id:=13) (hs:=[_]) ei_45 omx rfl omx ⟨rfl,rfl,rfl,rfl,trivial⟩) rfl rfl pre0 rfl rfl (c':=4) rfl ?_
  refine s0 (hop_build (hs:=[(0,1,_),(1,1,_)]) st_47 rfl rfl ⟨rfl,rfl,rfl,rfl,rfl,⟨rfl,rfl,rfl,rfl,rfl,trivial⟩⟩) ?_
  refine hm_ 15 (hop_call (xs:=[_,_]) [(12,_),(13,_)] (thr26_h' [m] [] (by simp) (rtok1 hm) s l1 l2 hby) ⟨rfl,⟨rfl,trivial⟩⟩ ⟨(Fz.eq rfl),⟨(fz2i (Fz.os _ _ _ _ _ _ (List.mem_cons_self ..) rfl (Nat.le_refl _) (fun i j hi hj=>by obtain rfl:i=0:=om;obtain rfl:j=0:=Nat.lt_one_iff.1 hj;exact (show Fz _ (rgsV m) (rgsV m) from Frz.fz))) (Fz.os _ _ _ _ _ _ (List.mem_cons_of_mem _ (List.mem_cons_self ..)) rfl (Nat.le_refl _) (fun i j hi hj=>by obtain rfl:i=0:=om;obtain rfl:j=0:=Nat.lt_one_iff.1 hj;exact (show Fz _ (intV (-1)) (intV (-1)) from .imm _)))),trivial⟩⟩ rfl) rfl rfl (preC rfl (preC rfl pre0)) rfl rfl (c':=5) rfl ?_
  refine s0 hex ?_
  refine s0 hex ?_
  first
  | refine hm_s1 (hol_storeW ty_26 rfl rfl rfl rfl) rfl rfl (pre1 rfl) (c':=6) rfl ?_
  | refine hm_s1 (hol_store ty_26 rfl rfl rfl rfl (by first | exact Nat.le_of_ble_eq_true rfl | omega | (dsimp only;omega) | (simp <;> omega)) (by first | exact Nat.le_of_ble_eq_true rfl | omega | (dsimp only;omega) | (simp <;> omega)) (by first | exact Nat.le_of_ble_eq_true rfl | omega | (dsimp only;omega) | (simp <;> omega))) rfl rfl (pre1 rfl) (c':=6) rfl ?_
  refine sa<|snl h5<|hw_ret ?_
  refine hq_ret2 rfl (rvl_cell rfl rfl ty_26 rqc rfl rfl) (rval_tmp rfl) [] rfl pre0 ?_
  rw [show overV s m=byV (routeV [m] []) s from if_pos hm,hby];exact fz_t2 (fz_agg10 fzc fzc fzc fzc fzc fzc fzc fzc (by exact fz_toks y.sl) (by exact fz_mkss y.sets)) (.imm _)
theorem map25_h (s:St) (hs:s.shape=true):HPure Try.prog 30 [stV s] (rgsV (mapV s)):=by
 obtain ⟨q1,q2,q3,q4,q5⟩:=shape_in hs
 have hk:=kind_in hs
 refine hpure_of Try.func30 rfl kr _ _ _ rfl 53 rfl rfl (fun w F=>?_)
 refine srg fun N h1=>?_
 refine hm_1 1 (hop_box (id:=1) (sz:=10) rfl rfl rfl omx omx) rfl rfl pre0 rfl rfl (c':=1) rfl ?_
 refine sa<|snl h1<|hw_seq fun Nh2 h2=>srg fun N h3=>?_
 first
 | refine hq_ 3 (hop_fa fd_26_0 rfl) rfl rfl pre0 rfl rfl ?_
 | refine hq_ 3 (hop_fa_fp fd_26_0 rfl (by first | exact Nat.le_of_ble_eq_true rfl | omega | (dsimp only;omega) | (simp <;> omega))) rfl rfl pre0 rfl rfl ?_
 first
 | refine hq_ 4 (HOp.val (v':=intV s.k) (hol_load ty_3 rfl (by first | exact Nat.le_of_ble_eq_true rfl | omega | (dsimp only;omega) | (simp <;> omega)) (by first | exact Nat.le_of_ble_eq_true rfl | omega | (dsimp only;omega) | (simp <;> omega)) (fun h=>(by first | rfl | cases h))) (rfl)) rfl rfl (pre1 rfl) rfl rfl ?_
 | refine hq_ 4 (HOp.val (v':=intV s.k) (hop_load_fp ty_3 rfl (by first | exact Nat.le_of_ble_eq_true rfl | omega | (dsimp only;omega) | (simp <;> omega)) (fun h=>(by first | rfl | cases h))) (rfl)) rfl rfl pre0 rfl rfl ?_
 refine s0 hqi ?_
 refine sm ?_
 first
 | refine stg 6 (fun hb=>hop_fa fd_26_3 rfl) rfl rfl rfl rfl rfl ?_
 | refine sth 6 (fun hb=>hop_fa fd_26_3 rfl) rfl rfl rfl rfl rfl ?_
 | refine stg 6 (fun hb=>hop_fa_fp fd_26_3 rfl (by first | exact Nat.le_of_ble_eq_true rfl | (simp at hb;first | omega | (dsimp only;omega) | (simp <;> omega)) | omega | (dsimp only;omega))) rfl rfl rfl rfl rfl ?_
 | refine sth 6 (fun hb=>hop_fa_fp fd_26_3 rfl (by first | exact Nat.le_of_ble_eq_true rfl | (simp at hb;first | omega | (dsimp only;omega) | (simp <;> omega)) | omega | (dsimp only;omega))) rfl rfl rfl rfl rfl ?_
 first
 | refine hq_g 8 3 6 true _ (fun hb=>HOp.val (v':=intV s.gf) (hol_load ty_3 rfl (by first | exact Nat.le_of_ble_eq_true rfl | (simp at hb;first | omega | (dsimp only;omega) | (simp <;> omega)) | omega | (dsimp only;omega)) (by first | exact Nat.le_of_ble_eq_true rfl | (simp at hb;first | omega | (dsimp only;omega) | (simp <;> omega)) | omega | (dsimp only;omega)) (fun h=>(by first | rfl | cases h))) (rfl)) rfl rfl rfl rfl (pre1 rfl) rfl rfl rfl ?_
 | refine hq_g2 8 3 6 _ _ true _ (fun hb=>HOp.val (v':=intV s.gf) (hol_load ty_3 rfl (by first | exact Nat.le_of_ble_eq_true rfl | (simp at hb;first | omega | (dsimp only;omega) | (simp <;> omega)) | omega | (dsimp only;omega)) (by first | exact Nat.le_of_ble_eq_true rfl | (simp at hb;first | omega | (dsimp only;omega) | (simp <;> omega)) | omega | (dsimp only;omega)) (fun h=>(by first | rfl | cases h))) (rfl)) rfl rfl rfl rfl (pre1 rfl) rfl rfl rfl ?_
 | refine stg 6 (fun hb=>HOp.val (v':=intV s.gf) (hop_load_fp ty_3 rfl (by first | exact Nat.le_of_ble_eq_true rfl | (simp at hb;first | omega | (dsimp only;omega) | (simp <;> omega)) | omega | (dsimp only;omega)) (fun h=>(by first | rfl | cases h))) (rfl)) rfl rfl rfl rfl rfl ?_
 | refine sth 6 (fun hb=>HOp.val (v':=intV s.gf) (hop_load_fp ty_3 rfl (by first | exact Nat.le_of_ble_eq_true rfl | (simp at hb;first | omega | (dsimp only;omega) | (simp <;> omega)) | omega | (dsimp only;omega)) (fun h=>(by first | rfl | cases h))) (rfl)) rfl rfl rfl rfl rfl ?_
 first
 | refine stg 6 (fun hb=>hop_fa fd_26_4 rfl) rfl rfl rfl rfl rfl ?_
 | refine sth 6 (fun hb=>hop_fa fd_26_4 rfl) rfl rfl rfl rfl rfl ?_
 | refine stg 6 (fun hb=>hop_fa_fp fd_26_4 rfl (by first | exact Nat.le_of_ble_eq_true rfl | (simp at hb;first | omega | (dsimp only;omega) | (simp <;> omega)) | omega | (dsimp only;omega))) rfl rfl rfl rfl rfl ?_
 | refine sth 6 (fun hb=>hop_fa_fp fd_26_4 rfl (by first | exact Nat.le_of_ble_eq_true rfl | (simp at hb;first | omega | (dsimp only;omega) | (simp <;> omega)) | omega | (dsimp only;omega))) rfl rfl rfl rfl rfl ?_
 first
 | refine hq_g 10 3 6 true _ (fun hb=>HOp.val (v':=intV s.gt) (hol_load ty_3 rfl (by first | exact Nat.le_of_ble_eq_true rfl | (simp at hb;first | omega | (dsimp only;omega) | (simp <;> omega)) | omega | (dsimp only;omega)) (by first | exact Nat.le_of_ble_eq_true rfl | (simp at hb;first | omega | (dsimp only;omega) | (simp <;> omega)) | omega | (dsimp only;omega)) (fun h=>(by first | rfl | cases h))) (rfl)) rfl rfl rfl rfl (pre1 rfl) rfl rfl rfl ?_
 | refine hq_g2 10 3 6 _ _ true _ (fun hb=>HOp.val (v':=intV s.gt) (hol_load ty_3 rfl (by first | exact Nat.le_of_ble_eq_true rfl | (simp at hb;first | omega | (dsimp only;omega) | (simp <;> omega)) | omega | (dsimp only;omega)) (by first | exact Nat.le_of_ble_eq_true rfl | (simp at hb;first | omega | (dsimp only;omega) | (simp <;> omega)) | omega | (dsimp only;omega)) (fun h=>(by first | rfl | cases h))) (rfl)) rfl rfl rfl rfl (pre1 rfl) rfl rfl rfl ?_
 | refine stg 6 (fun hb=>HOp.val (v':=intV s.gt) (hop_load_fp ty_3 rfl (by first | exact Nat.le_of_ble_eq_true rfl | (simp at hb;first | omega | (dsimp only;omega) | (simp <;> omega)) | omega | (dsimp only;omega)) (fun h=>(by first | rfl | cases h))) (rfl)) rfl rfl rfl rfl rfl ?_
 | refine sth 6 (fun hb=>HOp.val (v':=intV s.gt) (hop_load_fp ty_3 rfl (by first | exact Nat.le_of_ble_eq_true rfl | (simp at hb;first | omega | (dsimp only;omega) | (simp <;> omega)) | omega | (dsimp only;omega)) (fun h=>(by first | rfl | cases h))) (rfl)) rfl rfl rfl rfl rfl ?_
 first
 | refine stg 6 (fun hb=>hop_lss rfl rfl) rfl rfl rfl rfl rfl ?_
 | refine sth 6 (fun hb=>hop_lss rfl rfl) rfl rfl rfl rfl rfl ?_
 first
 | refine hq_p 12 (hstep_and _ _ rfl rfl rfl) rfl rfl rfl ?_
 | refine hq_p 12 (hstep_or _ _ rfl rfl rfl) rfl rfl rfl ?_
 | refine hq_p 12 (hstep_ite _ _ _ rfl rfl rfl) rfl rfl rfl ?_
 | refine hq_p 12 (hstep_pick _ _ _ _ rfl rfl rfl (fun _=>.refl _) (fun _=>.refl _)) rfl rfl rfl ?_
 refine nu ?_
 refine h3 _ ?_
 refine wc (fun hc0=>?_) (fun hc0=>?_)
 ·have hr0:=hc0;(try simp only [hcs,Int.reduceToNat] at hc0)
  have hg:=gap_in hs hc0.1;have hi:=ins_in hs hc0.1
  refine srg fun N h4=>?_
  first
  | refine hq_ 13 (hop_fa fd_26_1 rfl) rfl rfl pre0 rfl rfl ?_
  | refine hq_ 13 (hop_fa_fp fd_26_1 rfl (by first | exact Nat.le_of_ble_eq_true rfl | omega | (dsimp only;omega) | (simp <;> omega))) rfl rfl pre0 rfl rfl ?_
  first
  | refine hq_ 14 (HOp.val (v':=intV s.f) (hol_load ty_3 rfl (by first | exact Nat.le_of_ble_eq_true rfl | omega | (dsimp only;omega) | (simp <;> omega)) (by first | exact Nat.le_of_ble_eq_true rfl | omega | (dsimp only;omega) | (simp <;> omega)) (fun h=>(by first | rfl | cases h))) (rfl)) rfl rfl (pre1 rfl) rfl rfl ?_
  | refine hq_ 14 (HOp.val (v':=intV s.f) (hop_load_fp ty_3 rfl (by first | exact Nat.le_of_ble_eq_true rfl | omega | (dsimp only;omega) | (simp <;> omega)) (fun h=>(by first | rfl | cases h))) (rfl)) rfl rfl pre0 rfl rfl ?_
  first
  | refine hq_ 15 (hop_fa fd_26_3 rfl) rfl rfl pre0 rfl rfl ?_
  | refine hq_ 15 (hop_fa_fp fd_26_3 rfl (by first | exact Nat.le_of_ble_eq_true rfl | omega | (dsimp only;omega) | (simp <;> omega))) rfl rfl pre0 rfl rfl ?_
  first
  | refine hq_ 16 (HOp.val (v':=intV s.gf) (hol_load ty_3 rfl (by first | exact Nat.le_of_ble_eq_true rfl | omega | (dsimp only;omega) | (simp <;> omega)) (by first | exact Nat.le_of_ble_eq_true rfl | omega | (dsimp only;omega) | (simp <;> omega)) (fun h=>(by first | rfl | cases h))) (rfl)) rfl rfl (pre1 rfl) rfl rfl ?_
  | refine hq_ 16 (HOp.val (v':=intV s.gf) (hop_load_fp ty_3 rfl (by first | exact Nat.le_of_ble_eq_true rfl | omega | (dsimp only;omega) | (simp <;> omega)) (fun h=>(by first | rfl | cases h))) (rfl)) rfl rfl pre0 rfl rfl ?_
  first
  | refine hq_ 17 (hop_fa fd_26_1 rfl) rfl rfl pre0 rfl rfl ?_
  | refine hq_ 17 (hop_fa_fp fd_26_1 rfl (by first | exact Nat.le_of_ble_eq_true rfl | omega | (dsimp only;omega) | (simp <;> omega))) rfl rfl pre0 rfl rfl ?_
  first
  | refine hq_ 18 (HOp.val (v':=intV s.f) (hol_load ty_3 rfl (by first | exact Nat.le_of_ble_eq_true rfl | omega | (dsimp only;omega) | (simp <;> omega)) (by first | exact Nat.le_of_ble_eq_true rfl | omega | (dsimp only;omega) | (simp <;> omega)) (fun h=>(by first | rfl | cases h))) (rfl)) rfl rfl (pre1 rfl) rfl rfl ?_
  | refine hq_ 18 (HOp.val (v':=intV s.f) (hop_load_fp ty_3 rfl (by first | exact Nat.le_of_ble_eq_true rfl | omega | (dsimp only;omega) | (simp <;> omega)) (fun h=>(by first | rfl | cases h))) (rfl)) rfl rfl pre0 rfl rfl ?_
  first
  | refine hq_ 19 (hop_subi rfl rfl rfl (by first | exact Nat.le_of_ble_eq_true rfl | omega | (dsimp only;omega) | (simp <;> omega)) (by first | exact Nat.le_of_ble_eq_true rfl | omega | (dsimp only;omega) | (simp <;> omega))) rfl rfl pre0 rfl rfl ?_
  | refine hq_ 19 (hop_sub rfl rfl) rfl rfl pre0 rfl rfl ?_
  first
  | refine hq_ 20 (hop_fa fd_26_5 rfl) rfl rfl pre0 rfl rfl ?_
  | refine hq_ 20 (hop_fa_fp fd_26_5 rfl (by first | exact Nat.le_of_ble_eq_true rfl | omega | (dsimp only;omega) | (simp <;> omega))) rfl rfl pre0 rfl rfl ?_
  first
  | refine hq_ 21 (HOp.val (v':=intV s.ins) (hol_load ty_3 rfl (by first | exact Nat.le_of_ble_eq_true rfl | omega | (dsimp only;omega) | (simp <;> omega)) (by first | exact Nat.le_of_ble_eq_true rfl | omega | (dsimp only;omega) | (simp <;> omega)) (fun h=>(by first | rfl | cases h))) (rfl)) rfl rfl (pre1 rfl) rfl rfl ?_
  | refine hq_ 21 (HOp.val (v':=intV s.ins) (hop_load_fp ty_3 rfl (by first | exact Nat.le_of_ble_eq_true rfl | omega | (dsimp only;omega) | (simp <;> omega)) (fun h=>(by first | rfl | cases h))) (rfl)) rfl rfl pre0 rfl rfl ?_
  refine s0 (hop_build (hs:=[(0,1,_),(1,1,_),(2,1,_)]) st_88 rfl rfl ⟨rfl,rfl,rfl,rfl,rfl,⟨rfl,rfl,rfl,rfl,rfl,⟨rfl,rfl,rfl,rfl,rfl,trivial⟩⟩⟩) ?_
  first
  | refine hq_ 23 (hop_fa fd_26_4 rfl) rfl rfl pre0 rfl rfl ?_
  | refine hq_ 23 (hop_fa_fp fd_26_4 rfl (by first | exact Nat.le_of_ble_eq_true rfl | omega | (dsimp only;omega) | (simp <;> omega))) rfl rfl pre0 rfl rfl ?_
  first
  | refine hq_ 24 (HOp.val (v':=intV s.gt) (hol_load ty_3 rfl (by first | exact Nat.le_of_ble_eq_true rfl | omega | (dsimp only;omega) | (simp <;> omega)) (by first | exact Nat.le_of_ble_eq_true rfl | omega | (dsimp only;omega) | (simp <;> omega)) (fun h=>(by first | rfl | cases h))) (rfl)) rfl rfl (pre1 rfl) rfl rfl ?_
  | refine hq_ 24 (HOp.val (v':=intV s.gt) (hop_load_fp ty_3 rfl (by first | exact Nat.le_of_ble_eq_true rfl | omega | (dsimp only;omega) | (simp <;> omega)) (fun h=>(by first | rfl | cases h))) (rfl)) rfl rfl pre0 rfl rfl ?_
  first
  | refine hq_ 25 (hop_fa fd_26_2 rfl) rfl rfl pre0 rfl rfl ?_
  | refine hq_ 25 (hop_fa_fp fd_26_2 rfl (by first | exact Nat.le_of_ble_eq_true rfl | omega | (dsimp only;omega) | (simp <;> omega))) rfl rfl pre0 rfl rfl ?_
  first
  | refine hq_ 26 (HOp.val (v':=intV s.t) (hol_load ty_3 rfl (by first | exact Nat.le_of_ble_eq_true rfl | omega | (dsimp only;omega) | (simp <;> omega)) (by first | exact Nat.le_of_ble_eq_true rfl | omega | (dsimp only;omega) | (simp <;> omega)) (fun h=>(by first | rfl | cases h))) (rfl)) rfl rfl (pre1 rfl) rfl rfl ?_
  | refine hq_ 26 (HOp.val (v':=intV s.t) (hop_load_fp ty_3 rfl (by first | exact Nat.le_of_ble_eq_true rfl | omega | (dsimp only;omega) | (simp <;> omega)) (fun h=>(by first | rfl | cases h))) (rfl)) rfl rfl pre0 rfl rfl ?_
  first
  | refine hq_ 27 (hop_fa fd_26_4 rfl) rfl rfl pre0 rfl rfl ?_
  | refine hq_ 27 (hop_fa_fp fd_26_4 rfl (by first | exact Nat.le_of_ble_eq_true rfl | omega | (dsimp only;omega) | (simp <;> omega))) rfl rfl pre0 rfl rfl ?_
  first
  | refine hq_ 28 (HOp.val (v':=intV s.gt) (hol_load ty_3 rfl (by first | exact Nat.le_of_ble_eq_true rfl | omega | (dsimp only;omega) | (simp <;> omega)) (by first | exact Nat.le_of_ble_eq_true rfl | omega | (dsimp only;omega) | (simp <;> omega)) (fun h=>(by first | rfl | cases h))) (rfl)) rfl rfl (pre1 rfl) rfl rfl ?_
  | refine hq_ 28 (HOp.val (v':=intV s.gt) (hop_load_fp ty_3 rfl (by first | exact Nat.le_of_ble_eq_true rfl | omega | (dsimp only;omega) | (simp <;> omega)) (fun h=>(by first | rfl | cases h))) (rfl)) rfl rfl pre0 rfl rfl ?_
  first
  | refine hq_ 29 (hop_subi rfl rfl rfl (by first | exact Nat.le_of_ble_eq_true rfl | omega | (dsimp only;omega) | (simp <;> omega)) (by first | exact Nat.le_of_ble_eq_true rfl | omega | (dsimp only;omega) | (simp <;> omega))) rfl rfl pre0 rfl rfl ?_
  | refine hq_ 29 (hop_sub rfl rfl) rfl rfl pre0 rfl rfl ?_
  first
  | refine hq_ 30 (hop_fa fd_26_8 rfl) rfl rfl pre0 rfl rfl ?_
  | refine hq_ 30 (hop_fa_fp fd_26_8 rfl (by first | exact Nat.le_of_ble_eq_true rfl | omega | (dsimp only;omega) | (simp <;> omega))) rfl rfl pre0 rfl rfl ?_
  first
  | refine hq_ 31 (HOp.val (v':=toksV s.sl) (hol_load ty_22 rfl (by first | exact Nat.le_of_ble_eq_true rfl | omega | (dsimp only;omega) | (simp <;> omega)) (by first | exact Nat.le_of_ble_eq_true rfl | omega | (dsimp only;omega) | (simp <;> omega)) (fun h=>(by first | rfl | cases h))) (rfl)) rfl rfl (pre1 rfl) rfl rfl ?_
  | refine hq_ 31 (HOp.val (v':=toksV s.sl) (hop_load_fp ty_22 rfl (by first | exact Nat.le_of_ble_eq_true rfl | omega | (dsimp only;omega) | (simp <;> omega)) (fun h=>(by first | rfl | cases h))) (rfl)) rfl rfl pre0 rfl rfl ?_
  first
  | refine hq_ 32 (hop_len_sl (T:=22) rfl (elOf_spec el_22).1 rfl) rfl rfl pre0 rfl rfl ?_
  | refine hq_ 32 (hop_len_os (T:=22) rfl (elOf_spec el_22).1 rfl) rfl rfl pre0 rfl rfl ?_
  | refine hq_ 32 (hop_len_nil (T:=22) rfl (elOf_spec el_22).1 rfl) rfl rfl pre0 rfl rfl ?_
  first
  | refine hq_ 33 (hop_fa fd_26_5 rfl) rfl rfl pre0 rfl rfl ?_
  | refine hq_ 33 (hop_fa_fp fd_26_5 rfl (by first | exact Nat.le_of_ble_eq_true rfl | omega | (dsimp only;omega) | (simp <;> omega))) rfl rfl pre0 rfl rfl ?_
  first
  | refine hq_ 34 (HOp.val (v':=intV s.ins) (hol_load ty_3 rfl (by first | exact Nat.le_of_ble_eq_true rfl | omega | (dsimp only;omega) | (simp <;> omega)) (by first | exact Nat.le_of_ble_eq_true rfl | omega | (dsimp only;omega) | (simp <;> omega)) (fun h=>(by first | rfl | cases h))) (rfl)) rfl rfl (pre1 rfl) rfl rfl ?_
  | refine hq_ 34 (HOp.val (v':=intV s.ins) (hop_load_fp ty_3 rfl (by first | exact Nat.le_of_ble_eq_true rfl | omega | (dsimp only;omega) | (simp <;> omega)) (fun h=>(by first | rfl | cases h))) (rfl)) rfl rfl pre0 rfl rfl ?_
  first
  | refine hq_ 35 (hop_subi rfl rfl rfl (by first | exact Nat.le_of_ble_eq_true rfl | omega | (dsimp only;omega) | (simp <;> omega)) (by first | exact Nat.le_of_ble_eq_true rfl | omega | (dsimp only;omega) | (simp <;> omega))) rfl rfl pre0 rfl rfl ?_
  | refine hq_ 35 (hop_sub rfl rfl) rfl rfl pre0 rfl rfl ?_
  refine s0 (hop_build (hs:=[(0,1,_),(1,1,_),(2,1,_)]) st_88 rfl rfl ⟨rfl,rfl,rfl,rfl,rfl,⟨rfl,rfl,rfl,rfl,rfl,⟨rfl,rfl,rfl,rfl,rfl,trivial⟩⟩⟩) ?_
  refine hm_1 37 (hop_buildSlice (id:=37) (hs:=[_,_]) ei_48 omx rfl omx ⟨rfl,rfl,rfl,rfl,⟨rfl,rfl,rfl,rfl,trivial⟩⟩) rfl rfl pre0 rfl rfl (c':=2) rfl ?_
  refine sa<|snl h4<|hw_ret<|hq_then_ret ?_
  refine hq_ret1 rfl (rval_tmp rfl) [(37,_)] rfl (preC rfl pre0) ?_
  rw [mapV2 hc0];exact fz_row (l:=[(⟨s.f,s.gf - s.f,s.ins⟩:Rg),⟨s.gt,s.t - s.gt,(s.sl.length:Int) - s.ins⟩]) (enc:=rgF) (d:=default) (List.mem_cons_self ..) rfl rfl (Nat.le_refl _) (fz_rg2 rfl rfl rfl rfl rfl rfl)
 have hr0:=hc0;(try simp only [hcs,Int.reduceToNat] at hc0)
 have hn:¬ (s.k=2∧s.gf < s.gt):=(by simpa using hr0)
 refine hw_skip<|h2 _<|hw_seq fun Nh5 h5=>srg fun N h6=>?_
 first
 | refine hq_ 38 (hop_fa fd_26_0 rfl) rfl rfl pre0 rfl rfl ?_
 | refine hq_ 38 (hop_fa_fp fd_26_0 rfl (by first | exact Nat.le_of_ble_eq_true rfl | omega | (dsimp only;omega) | (simp <;> omega))) rfl rfl pre0 rfl rfl ?_
 first
 | refine hq_ 39 (HOp.val (v':=intV s.k) (hol_load ty_3 rfl (by first | exact Nat.le_of_ble_eq_true rfl | omega | (dsimp only;omega) | (simp <;> omega)) (by first | exact Nat.le_of_ble_eq_true rfl | omega | (dsimp only;omega) | (simp <;> omega)) (fun h=>(by first | rfl | cases h))) (rfl)) rfl rfl (pre1 rfl) rfl rfl ?_
 | refine hq_ 39 (HOp.val (v':=intV s.k) (hop_load_fp ty_3 rfl (by first | exact Nat.le_of_ble_eq_true rfl | omega | (dsimp only;omega) | (simp <;> omega)) (fun h=>(by first | rfl | cases h))) (rfl)) rfl rfl pre0 rfl rfl ?_
 refine s0 (hop_leq rfl rfl) ?_
 refine snl h6 ?_
 refine wc (fun hc1=>?_) (fun hc1=>?_)
 ·have hr1:=hc1;(try simp only [hcs,Int.reduceToNat] at hc1)
  refine srg fun N h7=>?_
  first
  | refine hq_ 41 (hop_fa fd_26_1 rfl) rfl rfl pre0 rfl rfl ?_
  | refine hq_ 41 (hop_fa_fp fd_26_1 rfl (by first | exact Nat.le_of_ble_eq_true rfl | omega | (dsimp only;omega) | (simp <;> omega))) rfl rfl pre0 rfl rfl ?_
  first
  | refine hq_ 42 (HOp.val (v':=intV s.f) (hol_load ty_3 rfl (by first | exact Nat.le_of_ble_eq_true rfl | omega | (dsimp only;omega) | (simp <;> omega)) (by first | exact Nat.le_of_ble_eq_true rfl | omega | (dsimp only;omega) | (simp <;> omega)) (fun h=>(by first | rfl | cases h))) (rfl)) rfl rfl (pre1 rfl) rfl rfl ?_
  | refine hq_ 42 (HOp.val (v':=intV s.f) (hop_load_fp ty_3 rfl (by first | exact Nat.le_of_ble_eq_true rfl | omega | (dsimp only;omega) | (simp <;> omega)) (fun h=>(by first | rfl | cases h))) (rfl)) rfl rfl pre0 rfl rfl ?_
  first
  | refine hq_ 43 (hop_fa fd_26_2 rfl) rfl rfl pre0 rfl rfl ?_
  | refine hq_ 43 (hop_fa_fp fd_26_2 rfl (by first | exact Nat.le_of_ble_eq_true rfl | omega | (dsimp only;omega) | (simp <;> omega))) rfl rfl pre0 rfl rfl ?_
  first
  | refine hq_ 44 (HOp.val (v':=intV s.t) (hol_load ty_3 rfl (by first | exact Nat.le_of_ble_eq_true rfl | omega | (dsimp only;omega) | (simp <;> omega)) (by first | exact Nat.le_of_ble_eq_true rfl | omega | (dsimp only;omega) | (simp <;> omega)) (fun h=>(by first | rfl | cases h))) (rfl)) rfl rfl (pre1 rfl) rfl rfl ?_
  | refine hq_ 44 (HOp.val (v':=intV s.t) (hop_load_fp ty_3 rfl (by first | exact Nat.le_of_ble_eq_true rfl | omega | (dsimp only;omega) | (simp <;> omega)) (fun h=>(by first | rfl | cases h))) (rfl)) rfl rfl pre0 rfl rfl ?_
  first
  | refine hq_ 45 (hop_fa fd_26_1 rfl) rfl rfl pre0 rfl rfl ?_
  | refine hq_ 45 (hop_fa_fp fd_26_1 rfl (by first | exact Nat.le_of_ble_eq_true rfl | omega | (dsimp only;omega) | (simp <;> omega))) rfl rfl pre0 rfl rfl ?_
  first
  | refine hq_ 46 (HOp.val (v':=intV s.f) (hol_load ty_3 rfl (by first | exact Nat.le_of_ble_eq_true rfl | omega | (dsimp only;omega) | (simp <;> omega)) (by first | exact Nat.le_of_ble_eq_true rfl | omega | (dsimp only;omega) | (simp <;> omega)) (fun h=>(by first | rfl | cases h))) (rfl)) rfl rfl (pre1 rfl) rfl rfl ?_
  | refine hq_ 46 (HOp.val (v':=intV s.f) (hop_load_fp ty_3 rfl (by first | exact Nat.le_of_ble_eq_true rfl | omega | (dsimp only;omega) | (simp <;> omega)) (fun h=>(by first | rfl | cases h))) (rfl)) rfl rfl pre0 rfl rfl ?_
  first
  | refine hq_ 47 (hop_subi rfl rfl rfl (by first | exact Nat.le_of_ble_eq_true rfl | omega | (dsimp only;omega) | (simp <;> omega)) (by first | exact Nat.le_of_ble_eq_true rfl | omega | (dsimp only;omega) | (simp <;> omega))) rfl rfl pre0 rfl rfl ?_
  | refine hq_ 47 (hop_sub rfl rfl) rfl rfl pre0 rfl rfl ?_
  first
  | refine hq_ 48 (hop_fa fd_26_8 rfl) rfl rfl pre0 rfl rfl ?_
  | refine hq_ 48 (hop_fa_fp fd_26_8 rfl (by first | exact Nat.le_of_ble_eq_true rfl | omega | (dsimp only;omega) | (simp <;> omega))) rfl rfl pre0 rfl rfl ?_
  first
  | refine hq_ 49 (HOp.val (v':=toksV s.sl) (hol_load ty_22 rfl (by first | exact Nat.le_of_ble_eq_true rfl | omega | (dsimp only;omega) | (simp <;> omega)) (by first | exact Nat.le_of_ble_eq_true rfl | omega | (dsimp only;omega) | (simp <;> omega)) (fun h=>(by first | rfl | cases h))) (rfl)) rfl rfl (pre1 rfl) rfl rfl ?_
  | refine hq_ 49 (HOp.val (v':=toksV s.sl) (hop_load_fp ty_22 rfl (by first | exact Nat.le_of_ble_eq_true rfl | omega | (dsimp only;omega) | (simp <;> omega)) (fun h=>(by first | rfl | cases h))) (rfl)) rfl rfl pre0 rfl rfl ?_
  first
  | refine hq_ 50 (hop_len_sl (T:=22) rfl (elOf_spec el_22).1 rfl) rfl rfl pre0 rfl rfl ?_
  | refine hq_ 50 (hop_len_os (T:=22) rfl (elOf_spec el_22).1 rfl) rfl rfl pre0 rfl rfl ?_
  | refine hq_ 50 (hop_len_nil (T:=22) rfl (elOf_spec el_22).1 rfl) rfl rfl pre0 rfl rfl ?_
  refine s0 (hop_build (hs:=[(0,1,_),(1,1,_),(2,1,_)]) st_88 rfl rfl ⟨rfl,rfl,rfl,rfl,rfl,⟨rfl,rfl,rfl,rfl,rfl,⟨rfl,rfl,rfl,rfl,rfl,trivial⟩⟩⟩) ?_
  refine hm_1 52 (hop_buildSlice (id:=52) (hs:=[_]) ei_48 omx rfl omx ⟨rfl,rfl,rfl,rfl,trivial⟩) rfl rfl pre0 rfl rfl (c':=2) rfl ?_
  refine sa<|snl h7<|hw_ret<|hq_then_ret ?_
  refine hq_ret1 rfl (rval_tmp rfl) [(52,_)] rfl (preC rfl pre0) ?_
  rw [mapV1 hn hc1];exact fz_row (l:=[(⟨s.f,s.t - s.f,(s.sl.length:Int)⟩:Rg)]) (enc:=rgF) (d:=default) (List.mem_cons_self ..) rfl rfl (Nat.le_refl _) (fz_rg1 rfl rfl rfl)
 have hr1:=hc1;(try simp only [hcs,Int.reduceToNat] at hc1)
 refine hw_skip<|h5 _<|srg fun N h8=>sa<|snl h8<|hw_ret ?_
 refine hq_ret1 rfl (rval_tmp rfl) [] rfl pre0 ?_
 rw [mapV0 om];exact .nil _ _ _ (by decide) _
theorem splR_h (s:St) (hs:s.shape=true):HPure Try.prog 89 [stV s] (rgsV [⟨s.f,s.t - s.f,s.sl.length⟩]):=by
 obtain ⟨q1,q2,q3,q4,q5⟩:=shape_in hs
 refine hpure_of Try.func89 rfl kr _ _ _ rfl 19 rfl rfl (fun w F=>?_)
 refine srg fun N h1=>?_
 refine hm_1 1 (hop_box (id:=1) (sz:=10) rfl rfl rfl omx omx) rfl rfl pre0 rfl rfl (c':=1) rfl ?_
 refine sa<|snl h1<|srg fun N h2=>?_
 first
 | refine hq_ 3 (hop_fa fd_129_0 rfl) rfl rfl pre0 rfl rfl ?_
 | refine hq_ 3 (hop_fa_fp fd_129_0 rfl (by first | exact Nat.le_of_ble_eq_true rfl | omega | (dsimp only;omega) | (simp <;> omega))) rfl rfl pre0 rfl rfl ?_
 first
 | refine hq_ 4 (hop_fa fd_26_1 rfl) rfl rfl pre0 rfl rfl ?_
 | refine hq_ 4 (hop_fa_fp fd_26_1 rfl (by first | exact Nat.le_of_ble_eq_true rfl | omega | (dsimp only;omega) | (simp <;> omega))) rfl rfl pre0 rfl rfl ?_
 first
 | refine hq_ 5 (HOp.val (v':=intV s.f) (hol_load ty_3 rfl (by first | exact Nat.le_of_ble_eq_true rfl | omega | (dsimp only;omega) | (simp <;> omega)) (by first | exact Nat.le_of_ble_eq_true rfl | omega | (dsimp only;omega) | (simp <;> omega)) (fun h=>(by first | rfl | cases h))) (rfl)) rfl rfl (pre1 rfl) rfl rfl ?_
 | refine hq_ 5 (HOp.val (v':=intV s.f) (hop_load_fp ty_3 rfl (by first | exact Nat.le_of_ble_eq_true rfl | omega | (dsimp only;omega) | (simp <;> omega)) (fun h=>(by first | rfl | cases h))) (rfl)) rfl rfl pre0 rfl rfl ?_
 first
 | refine hq_ 6 (hop_fa fd_129_0 rfl) rfl rfl pre0 rfl rfl ?_
 | refine hq_ 6 (hop_fa_fp fd_129_0 rfl (by first | exact Nat.le_of_ble_eq_true rfl | omega | (dsimp only;omega) | (simp <;> omega))) rfl rfl pre0 rfl rfl ?_
 first
 | refine hq_ 7 (hop_fa fd_26_2 rfl) rfl rfl pre0 rfl rfl ?_
 | refine hq_ 7 (hop_fa_fp fd_26_2 rfl (by first | exact Nat.le_of_ble_eq_true rfl | omega | (dsimp only;omega) | (simp <;> omega))) rfl rfl pre0 rfl rfl ?_
 first
 | refine hq_ 8 (HOp.val (v':=intV s.t) (hol_load ty_3 rfl (by first | exact Nat.le_of_ble_eq_true rfl | omega | (dsimp only;omega) | (simp <;> omega)) (by first | exact Nat.le_of_ble_eq_true rfl | omega | (dsimp only;omega) | (simp <;> omega)) (fun h=>(by first | rfl | cases h))) (rfl)) rfl rfl (pre1 rfl) rfl rfl ?_
 | refine hq_ 8 (HOp.val (v':=intV s.t) (hop_load_fp ty_3 rfl (by first | exact Nat.le_of_ble_eq_true rfl | omega | (dsimp only;omega) | (simp <;> omega)) (fun h=>(by first | rfl | cases h))) (rfl)) rfl rfl pre0 rfl rfl ?_
 first
 | refine hq_ 9 (hop_fa fd_129_0 rfl) rfl rfl pre0 rfl rfl ?_
 | refine hq_ 9 (hop_fa_fp fd_129_0 rfl (by first | exact Nat.le_of_ble_eq_true rfl | omega | (dsimp only;omega) | (simp <;> omega))) rfl rfl pre0 rfl rfl ?_
 first
 | refine hq_ 10 (hop_fa fd_26_1 rfl) rfl rfl pre0 rfl rfl ?_
 | refine hq_ 10 (hop_fa_fp fd_26_1 rfl (by first | exact Nat.le_of_ble_eq_true rfl | omega | (dsimp only;omega) | (simp <;> omega))) rfl rfl pre0 rfl rfl ?_
 first
 | refine hq_ 11 (HOp.val (v':=intV s.f) (hol_load ty_3 rfl (by first | exact Nat.le_of_ble_eq_true rfl | omega | (dsimp only;omega) | (simp <;> omega)) (by first | exact Nat.le_of_ble_eq_true rfl | omega | (dsimp only;omega) | (simp <;> omega)) (fun h=>(by first | rfl | cases h))) (rfl)) rfl rfl (pre1 rfl) rfl rfl ?_
 | refine hq_ 11 (HOp.val (v':=intV s.f) (hop_load_fp ty_3 rfl (by first | exact Nat.le_of_ble_eq_true rfl | omega | (dsimp only;omega) | (simp <;> omega)) (fun h=>(by first | rfl | cases h))) (rfl)) rfl rfl pre0 rfl rfl ?_
 first
 | refine hq_ 12 (hop_subi rfl rfl rfl (by first | exact Nat.le_of_ble_eq_true rfl | omega | (dsimp only;omega) | (simp <;> omega)) (by first | exact Nat.le_of_ble_eq_true rfl | omega | (dsimp only;omega) | (simp <;> omega))) rfl rfl pre0 rfl rfl ?_
 | refine hq_ 12 (hop_sub rfl rfl) rfl rfl pre0 rfl rfl ?_
 first
 | refine hq_ 13 (hop_fa fd_129_0 rfl) rfl rfl pre0 rfl rfl ?_
 | refine hq_ 13 (hop_fa_fp fd_129_0 rfl (by first | exact Nat.le_of_ble_eq_true rfl | omega | (dsimp only;omega) | (simp <;> omega))) rfl rfl pre0 rfl rfl ?_
 first
 | refine hq_ 14 (hop_fa fd_26_8 rfl) rfl rfl pre0 rfl rfl ?_
 | refine hq_ 14 (hop_fa_fp fd_26_8 rfl (by first | exact Nat.le_of_ble_eq_true rfl | omega | (dsimp only;omega) | (simp <;> omega))) rfl rfl pre0 rfl rfl ?_
 first
 | refine hq_ 15 (HOp.val (v':=toksV s.sl) (hol_load ty_22 rfl (by first | exact Nat.le_of_ble_eq_true rfl | omega | (dsimp only;omega) | (simp <;> omega)) (by first | exact Nat.le_of_ble_eq_true rfl | omega | (dsimp only;omega) | (simp <;> omega)) (fun h=>(by first | rfl | cases h))) (rfl)) rfl rfl (pre1 rfl) rfl rfl ?_
 | refine hq_ 15 (HOp.val (v':=toksV s.sl) (hop_load_fp ty_22 rfl (by first | exact Nat.le_of_ble_eq_true rfl | omega | (dsimp only;omega) | (simp <;> omega)) (fun h=>(by first | rfl | cases h))) (rfl)) rfl rfl pre0 rfl rfl ?_
 first
 | refine hq_ 16 (hop_len_sl (T:=22) rfl (elOf_spec el_22).1 rfl) rfl rfl pre0 rfl rfl ?_
 | refine hq_ 16 (hop_len_os (T:=22) rfl (elOf_spec el_22).1 rfl) rfl rfl pre0 rfl rfl ?_
 | refine hq_ 16 (hop_len_nil (T:=22) rfl (elOf_spec el_22).1 rfl) rfl rfl pre0 rfl rfl ?_
 refine s0 (hop_build (hs:=[(0,1,_),(1,1,_),(2,1,_)]) st_88 rfl rfl ⟨rfl,rfl,rfl,rfl,rfl,⟨rfl,rfl,rfl,rfl,rfl,⟨rfl,rfl,rfl,rfl,rfl,trivial⟩⟩⟩) ?_
 refine hm_1 18 (hop_buildSlice (id:=18) (hs:=[_]) ei_48 omx rfl omx ⟨rfl,rfl,rfl,rfl,trivial⟩) rfl rfl pre0 rfl rfl (c':=2) rfl ?_
 refine sa<|snl h2<|hw_ret ?_
 refine hq_ret1 rfl (rval_tmp rfl) [(18,_)] rfl (preC rfl pre0) ?_
 exact fz_row (l:=[(⟨s.f,s.t - s.f,(s.sl.length:Int)⟩:Rg)]) (enc:=rgF) (d:=default) (List.mem_cons_self ..) rfl rfl (Nat.le_refl _) (fz_rg1 rfl rfl rfl)
theorem aroR_h (s:St) (hs:s.shape=true) (hk:s.k=2):HPure Try.prog 96 [stV s] (rgsV (mapV s)):=by
 obtain ⟨q1,q2,q3,q4,q5⟩:=shape_in hs
 have hg:=gap_in hs hk
 have hi:=ins_in hs hk
 refine hpure_of Try.func96 rfl kr _ _ _ rfl 48 rfl rfl (fun w F=>?_)
 refine srg fun N h1=>?_
 refine hm_1 1 (hop_box (id:=1) (sz:=10) rfl rfl rfl omx omx) rfl rfl pre0 rfl rfl (c':=1) rfl ?_
 refine sa<|snl h1<|hw_seq fun Nh2 h2=>srg fun N h3=>?_
 first
 | refine hq_ 3 (hop_fa fd_130_0 rfl) rfl rfl pre0 rfl rfl ?_
 | refine hq_ 3 (hop_fa_fp fd_130_0 rfl (by first | exact Nat.le_of_ble_eq_true rfl | omega | (dsimp only;omega) | (simp <;> omega))) rfl rfl pre0 rfl rfl ?_
 first
 | refine hq_ 4 (hop_fa fd_26_3 rfl) rfl rfl pre0 rfl rfl ?_
 | refine hq_ 4 (hop_fa_fp fd_26_3 rfl (by first | exact Nat.le_of_ble_eq_true rfl | omega | (dsimp only;omega) | (simp <;> omega))) rfl rfl pre0 rfl rfl ?_
 first
 | refine hq_ 5 (HOp.val (v':=intV s.gf) (hol_load ty_3 rfl (by first | exact Nat.le_of_ble_eq_true rfl | omega | (dsimp only;omega) | (simp <;> omega)) (by first | exact Nat.le_of_ble_eq_true rfl | omega | (dsimp only;omega) | (simp <;> omega)) (fun h=>(by first | rfl | cases h))) (rfl)) rfl rfl (pre1 rfl) rfl rfl ?_
 | refine hq_ 5 (HOp.val (v':=intV s.gf) (hop_load_fp ty_3 rfl (by first | exact Nat.le_of_ble_eq_true rfl | omega | (dsimp only;omega) | (simp <;> omega)) (fun h=>(by first | rfl | cases h))) (rfl)) rfl rfl pre0 rfl rfl ?_
 first
 | refine hq_ 6 (hop_fa fd_130_0 rfl) rfl rfl pre0 rfl rfl ?_
 | refine hq_ 6 (hop_fa_fp fd_130_0 rfl (by first | exact Nat.le_of_ble_eq_true rfl | omega | (dsimp only;omega) | (simp <;> omega))) rfl rfl pre0 rfl rfl ?_
 first
 | refine hq_ 7 (hop_fa fd_26_4 rfl) rfl rfl pre0 rfl rfl ?_
 | refine hq_ 7 (hop_fa_fp fd_26_4 rfl (by first | exact Nat.le_of_ble_eq_true rfl | omega | (dsimp only;omega) | (simp <;> omega))) rfl rfl pre0 rfl rfl ?_
 first
 | refine hq_ 8 (HOp.val (v':=intV s.gt) (hol_load ty_3 rfl (by first | exact Nat.le_of_ble_eq_true rfl | omega | (dsimp only;omega) | (simp <;> omega)) (by first | exact Nat.le_of_ble_eq_true rfl | omega | (dsimp only;omega) | (simp <;> omega)) (fun h=>(by first | rfl | cases h))) (rfl)) rfl rfl (pre1 rfl) rfl rfl ?_
 | refine hq_ 8 (HOp.val (v':=intV s.gt) (hop_load_fp ty_3 rfl (by first | exact Nat.le_of_ble_eq_true rfl | omega | (dsimp only;omega) | (simp <;> omega)) (fun h=>(by first | rfl | cases h))) (rfl)) rfl rfl pre0 rfl rfl ?_
 refine s0 hqi ?_
 refine snl h3 ?_
 refine wc (fun hc0=>?_) (fun hc0=>?_)
 ·have hr0:=hc0;(try simp only [hcs,Int.reduceToNat] at hc0)
  refine srg fun N h4=>?_
  first
  | refine hq_ 10 (hop_fa fd_130_0 rfl) rfl rfl pre0 rfl rfl ?_
  | refine hq_ 10 (hop_fa_fp fd_130_0 rfl (by first | exact Nat.le_of_ble_eq_true rfl | omega | (dsimp only;omega) | (simp <;> omega))) rfl rfl pre0 rfl rfl ?_
  first
  | refine hq_ 11 (hol_load ty_26 rfl (by first | exact Nat.le_of_ble_eq_true rfl | omega | (dsimp only;omega) | (simp <;> omega)) (by first | exact Nat.le_of_ble_eq_true rfl | omega | (dsimp only;omega) | (simp <;> omega)) (fun h=>(by first | rfl | cases h))) rfl rfl (pre1 rfl) rfl rfl ?_
  | refine hq_ 11 (hop_load_fp ty_26 rfl (by first | exact Nat.le_of_ble_eq_true rfl | omega | (dsimp only;omega) | (simp <;> omega)) (fun h=>(by first | rfl | cases h))) rfl rfl pre0 rfl rfl ?_
  refine s0 (hop_build (hs:=[(0,10,_)]) st_129 rfl rfl ⟨rfl,rfl,rfl,rfl,rfl,trivial⟩) ?_
  refine s0 (hop_call0 (xs:=[_]) (splR_h s hs) ⟨rfl,trivial⟩ ⟨(fz_agg10 fzc fzc fzc fzc fzc fzc fzc fzc (by exact fz_toks s.sl) (by exact fz_mkss s.sets)),trivial⟩) ?_
  refine sa<|snl h4<|hw_ret<|hq_then_ret ?_
  refine hq_ret1 rfl (rval_tmp rfl) [] rfl pre0 ?_
  rw [mapV1 om om];exact Frz.fz
 have hr0:=hc0;(try simp only [hcs,Int.reduceToNat] at hc0)
 refine hw_skip<|h2 _<|srg fun N h5=>?_
 first
 | refine hq_ 14 (hop_fa fd_130_0 rfl) rfl rfl pre0 rfl rfl ?_
 | refine hq_ 14 (hop_fa_fp fd_130_0 rfl (by first | exact Nat.le_of_ble_eq_true rfl | omega | (dsimp only;omega) | (simp <;> omega))) rfl rfl pre0 rfl rfl ?_
 first
 | refine hq_ 15 (hop_fa fd_26_1 rfl) rfl rfl pre0 rfl rfl ?_
 | refine hq_ 15 (hop_fa_fp fd_26_1 rfl (by first | exact Nat.le_of_ble_eq_true rfl | omega | (dsimp only;omega) | (simp <;> omega))) rfl rfl pre0 rfl rfl ?_
 first
 | refine hq_ 16 (HOp.val (v':=intV s.f) (hol_load ty_3 rfl (by first | exact Nat.le_of_ble_eq_true rfl | omega | (dsimp only;omega) | (simp <;> omega)) (by first | exact Nat.le_of_ble_eq_true rfl | omega | (dsimp only;omega) | (simp <;> omega)) (fun h=>(by first | rfl | cases h))) (rfl)) rfl rfl (pre1 rfl) rfl rfl ?_
 | refine hq_ 16 (HOp.val (v':=intV s.f) (hop_load_fp ty_3 rfl (by first | exact Nat.le_of_ble_eq_true rfl | omega | (dsimp only;omega) | (simp <;> omega)) (fun h=>(by first | rfl | cases h))) (rfl)) rfl rfl pre0 rfl rfl ?_
 first
 | refine hq_ 17 (hop_fa fd_130_0 rfl) rfl rfl pre0 rfl rfl ?_
 | refine hq_ 17 (hop_fa_fp fd_130_0 rfl (by first | exact Nat.le_of_ble_eq_true rfl | omega | (dsimp only;omega) | (simp <;> omega))) rfl rfl pre0 rfl rfl ?_
 first
 | refine hq_ 18 (hop_fa fd_26_3 rfl) rfl rfl pre0 rfl rfl ?_
 | refine hq_ 18 (hop_fa_fp fd_26_3 rfl (by first | exact Nat.le_of_ble_eq_true rfl | omega | (dsimp only;omega) | (simp <;> omega))) rfl rfl pre0 rfl rfl ?_
 first
 | refine hq_ 19 (HOp.val (v':=intV s.gf) (hol_load ty_3 rfl (by first | exact Nat.le_of_ble_eq_true rfl | omega | (dsimp only;omega) | (simp <;> omega)) (by first | exact Nat.le_of_ble_eq_true rfl | omega | (dsimp only;omega) | (simp <;> omega)) (fun h=>(by first | rfl | cases h))) (rfl)) rfl rfl (pre1 rfl) rfl rfl ?_
 | refine hq_ 19 (HOp.val (v':=intV s.gf) (hop_load_fp ty_3 rfl (by first | exact Nat.le_of_ble_eq_true rfl | omega | (dsimp only;omega) | (simp <;> omega)) (fun h=>(by first | rfl | cases h))) (rfl)) rfl rfl pre0 rfl rfl ?_
 first
 | refine hq_ 20 (hop_fa fd_130_0 rfl) rfl rfl pre0 rfl rfl ?_
 | refine hq_ 20 (hop_fa_fp fd_130_0 rfl (by first | exact Nat.le_of_ble_eq_true rfl | omega | (dsimp only;omega) | (simp <;> omega))) rfl rfl pre0 rfl rfl ?_
 first
 | refine hq_ 21 (hop_fa fd_26_1 rfl) rfl rfl pre0 rfl rfl ?_
 | refine hq_ 21 (hop_fa_fp fd_26_1 rfl (by first | exact Nat.le_of_ble_eq_true rfl | omega | (dsimp only;omega) | (simp <;> omega))) rfl rfl pre0 rfl rfl ?_
 first
 | refine hq_ 22 (HOp.val (v':=intV s.f) (hol_load ty_3 rfl (by first | exact Nat.le_of_ble_eq_true rfl | omega | (dsimp only;omega) | (simp <;> omega)) (by first | exact Nat.le_of_ble_eq_true rfl | omega | (dsimp only;omega) | (simp <;> omega)) (fun h=>(by first | rfl | cases h))) (rfl)) rfl rfl (pre1 rfl) rfl rfl ?_
 | refine hq_ 22 (HOp.val (v':=intV s.f) (hop_load_fp ty_3 rfl (by first | exact Nat.le_of_ble_eq_true rfl | omega | (dsimp only;omega) | (simp <;> omega)) (fun h=>(by first | rfl | cases h))) (rfl)) rfl rfl pre0 rfl rfl ?_
 first
 | refine hq_ 23 (hop_subi rfl rfl rfl (by first | exact Nat.le_of_ble_eq_true rfl | omega | (dsimp only;omega) | (simp <;> omega)) (by first | exact Nat.le_of_ble_eq_true rfl | omega | (dsimp only;omega) | (simp <;> omega))) rfl rfl pre0 rfl rfl ?_
 | refine hq_ 23 (hop_sub rfl rfl) rfl rfl pre0 rfl rfl ?_
 first
 | refine hq_ 24 (hop_fa fd_130_0 rfl) rfl rfl pre0 rfl rfl ?_
 | refine hq_ 24 (hop_fa_fp fd_130_0 rfl (by first | exact Nat.le_of_ble_eq_true rfl | omega | (dsimp only;omega) | (simp <;> omega))) rfl rfl pre0 rfl rfl ?_
 first
 | refine hq_ 25 (hop_fa fd_26_5 rfl) rfl rfl pre0 rfl rfl ?_
 | refine hq_ 25 (hop_fa_fp fd_26_5 rfl (by first | exact Nat.le_of_ble_eq_true rfl | omega | (dsimp only;omega) | (simp <;> omega))) rfl rfl pre0 rfl rfl ?_
 first
 | refine hq_ 26 (HOp.val (v':=intV s.ins) (hol_load ty_3 rfl (by first | exact Nat.le_of_ble_eq_true rfl | omega | (dsimp only;omega) | (simp <;> omega)) (by first | exact Nat.le_of_ble_eq_true rfl | omega | (dsimp only;omega) | (simp <;> omega)) (fun h=>(by first | rfl | cases h))) (rfl)) rfl rfl (pre1 rfl) rfl rfl ?_
 | refine hq_ 26 (HOp.val (v':=intV s.ins) (hop_load_fp ty_3 rfl (by first | exact Nat.le_of_ble_eq_true rfl | omega | (dsimp only;omega) | (simp <;> omega)) (fun h=>(by first | rfl | cases h))) (rfl)) rfl rfl pre0 rfl rfl ?_
 refine s0 (hop_build (hs:=[(0,1,_),(1,1,_),(2,1,_)]) st_88 rfl rfl ⟨rfl,rfl,rfl,rfl,rfl,⟨rfl,rfl,rfl,rfl,rfl,⟨rfl,rfl,rfl,rfl,rfl,trivial⟩⟩⟩) ?_
 first
 | refine hq_ 28 (hop_fa fd_130_0 rfl) rfl rfl pre0 rfl rfl ?_
 | refine hq_ 28 (hop_fa_fp fd_130_0 rfl (by first | exact Nat.le_of_ble_eq_true rfl | omega | (dsimp only;omega) | (simp <;> omega))) rfl rfl pre0 rfl rfl ?_
 first
 | refine hq_ 29 (hop_fa fd_26_4 rfl) rfl rfl pre0 rfl rfl ?_
 | refine hq_ 29 (hop_fa_fp fd_26_4 rfl (by first | exact Nat.le_of_ble_eq_true rfl | omega | (dsimp only;omega) | (simp <;> omega))) rfl rfl pre0 rfl rfl ?_
 first
 | refine hq_ 30 (HOp.val (v':=intV s.gt) (hol_load ty_3 rfl (by first | exact Nat.le_of_ble_eq_true rfl | omega | (dsimp only;omega) | (simp <;> omega)) (by first | exact Nat.le_of_ble_eq_true rfl | omega | (dsimp only;omega) | (simp <;> omega)) (fun h=>(by first | rfl | cases h))) (rfl)) rfl rfl (pre1 rfl) rfl rfl ?_
 | refine hq_ 30 (HOp.val (v':=intV s.gt) (hop_load_fp ty_3 rfl (by first | exact Nat.le_of_ble_eq_true rfl | omega | (dsimp only;omega) | (simp <;> omega)) (fun h=>(by first | rfl | cases h))) (rfl)) rfl rfl pre0 rfl rfl ?_
 first
 | refine hq_ 31 (hop_fa fd_130_0 rfl) rfl rfl pre0 rfl rfl ?_
 | refine hq_ 31 (hop_fa_fp fd_130_0 rfl (by first | exact Nat.le_of_ble_eq_true rfl | omega | (dsimp only;omega) | (simp <;> omega))) rfl rfl pre0 rfl rfl ?_
 first
 | refine hq_ 32 (hop_fa fd_26_2 rfl) rfl rfl pre0 rfl rfl ?_
 | refine hq_ 32 (hop_fa_fp fd_26_2 rfl (by first | exact Nat.le_of_ble_eq_true rfl | omega | (dsimp only;omega) | (simp <;> omega))) rfl rfl pre0 rfl rfl ?_
 first
 | refine hq_ 33 (HOp.val (v':=intV s.t) (hol_load ty_3 rfl (by first | exact Nat.le_of_ble_eq_true rfl | omega | (dsimp only;omega) | (simp <;> omega)) (by first | exact Nat.le_of_ble_eq_true rfl | omega | (dsimp only;omega) | (simp <;> omega)) (fun h=>(by first | rfl | cases h))) (rfl)) rfl rfl (pre1 rfl) rfl rfl ?_
 | refine hq_ 33 (HOp.val (v':=intV s.t) (hop_load_fp ty_3 rfl (by first | exact Nat.le_of_ble_eq_true rfl | omega | (dsimp only;omega) | (simp <;> omega)) (fun h=>(by first | rfl | cases h))) (rfl)) rfl rfl pre0 rfl rfl ?_
 first
 | refine hq_ 34 (hop_fa fd_130_0 rfl) rfl rfl pre0 rfl rfl ?_
 | refine hq_ 34 (hop_fa_fp fd_130_0 rfl (by first | exact Nat.le_of_ble_eq_true rfl | omega | (dsimp only;omega) | (simp <;> omega))) rfl rfl pre0 rfl rfl ?_
 first
 | refine hq_ 35 (hop_fa fd_26_4 rfl) rfl rfl pre0 rfl rfl ?_
 | refine hq_ 35 (hop_fa_fp fd_26_4 rfl (by first | exact Nat.le_of_ble_eq_true rfl | omega | (dsimp only;omega) | (simp <;> omega))) rfl rfl pre0 rfl rfl ?_
 first
 | refine hq_ 36 (HOp.val (v':=intV s.gt) (hol_load ty_3 rfl (by first | exact Nat.le_of_ble_eq_true rfl | omega | (dsimp only;omega) | (simp <;> omega)) (by first | exact Nat.le_of_ble_eq_true rfl | omega | (dsimp only;omega) | (simp <;> omega)) (fun h=>(by first | rfl | cases h))) (rfl)) rfl rfl (pre1 rfl) rfl rfl ?_
 | refine hq_ 36 (HOp.val (v':=intV s.gt) (hop_load_fp ty_3 rfl (by first | exact Nat.le_of_ble_eq_true rfl | omega | (dsimp only;omega) | (simp <;> omega)) (fun h=>(by first | rfl | cases h))) (rfl)) rfl rfl pre0 rfl rfl ?_
 first
 | refine hq_ 37 (hop_subi rfl rfl rfl (by first | exact Nat.le_of_ble_eq_true rfl | omega | (dsimp only;omega) | (simp <;> omega)) (by first | exact Nat.le_of_ble_eq_true rfl | omega | (dsimp only;omega) | (simp <;> omega))) rfl rfl pre0 rfl rfl ?_
 | refine hq_ 37 (hop_sub rfl rfl) rfl rfl pre0 rfl rfl ?_
 first
 | refine hq_ 38 (hop_fa fd_130_0 rfl) rfl rfl pre0 rfl rfl ?_
 | refine hq_ 38 (hop_fa_fp fd_130_0 rfl (by first | exact Nat.le_of_ble_eq_true rfl | omega | (dsimp only;omega) | (simp <;> omega))) rfl rfl pre0 rfl rfl ?_
 first
 | refine hq_ 39 (hop_fa fd_26_8 rfl) rfl rfl pre0 rfl rfl ?_
 | refine hq_ 39 (hop_fa_fp fd_26_8 rfl (by first | exact Nat.le_of_ble_eq_true rfl | omega | (dsimp only;omega) | (simp <;> omega))) rfl rfl pre0 rfl rfl ?_
 first
 | refine hq_ 40 (HOp.val (v':=toksV s.sl) (hol_load ty_22 rfl (by first | exact Nat.le_of_ble_eq_true rfl | omega | (dsimp only;omega) | (simp <;> omega)) (by first | exact Nat.le_of_ble_eq_true rfl | omega | (dsimp only;omega) | (simp <;> omega)) (fun h=>(by first | rfl | cases h))) (rfl)) rfl rfl (pre1 rfl) rfl rfl ?_
 | refine hq_ 40 (HOp.val (v':=toksV s.sl) (hop_load_fp ty_22 rfl (by first | exact Nat.le_of_ble_eq_true rfl | omega | (dsimp only;omega) | (simp <;> omega)) (fun h=>(by first | rfl | cases h))) (rfl)) rfl rfl pre0 rfl rfl ?_
 first
 | refine hq_ 41 (hop_len_sl (T:=22) rfl (elOf_spec el_22).1 rfl) rfl rfl pre0 rfl rfl ?_
 | refine hq_ 41 (hop_len_os (T:=22) rfl (elOf_spec el_22).1 rfl) rfl rfl pre0 rfl rfl ?_
 | refine hq_ 41 (hop_len_nil (T:=22) rfl (elOf_spec el_22).1 rfl) rfl rfl pre0 rfl rfl ?_
 first
 | refine hq_ 42 (hop_fa fd_130_0 rfl) rfl rfl pre0 rfl rfl ?_
 | refine hq_ 42 (hop_fa_fp fd_130_0 rfl (by first | exact Nat.le_of_ble_eq_true rfl | omega | (dsimp only;omega) | (simp <;> omega))) rfl rfl pre0 rfl rfl ?_
 first
 | refine hq_ 43 (hop_fa fd_26_5 rfl) rfl rfl pre0 rfl rfl ?_
 | refine hq_ 43 (hop_fa_fp fd_26_5 rfl (by first | exact Nat.le_of_ble_eq_true rfl | omega | (dsimp only;omega) | (simp <;> omega))) rfl rfl pre0 rfl rfl ?_
 first
 | refine hq_ 44 (HOp.val (v':=intV s.ins) (hol_load ty_3 rfl (by first | exact Nat.le_of_ble_eq_true rfl | omega | (dsimp only;omega) | (simp <;> omega)) (by first | exact Nat.le_of_ble_eq_true rfl | omega | (dsimp only;omega) | (simp <;> omega)) (fun h=>(by first | rfl | cases h))) (rfl)) rfl rfl (pre1 rfl) rfl rfl ?_
 | refine hq_ 44 (HOp.val (v':=intV s.ins) (hop_load_fp ty_3 rfl (by first | exact Nat.le_of_ble_eq_true rfl | omega | (dsimp only;omega) | (simp <;> omega)) (fun h=>(by first | rfl | cases h))) (rfl)) rfl rfl pre0 rfl rfl ?_
 first
 | refine hq_ 45 (hop_subi rfl rfl rfl (by first | exact Nat.le_of_ble_eq_true rfl | omega | (dsimp only;omega) | (simp <;> omega)) (by first | exact Nat.le_of_ble_eq_true rfl | omega | (dsimp only;omega) | (simp <;> omega))) rfl rfl pre0 rfl rfl ?_
 | refine hq_ 45 (hop_sub rfl rfl) rfl rfl pre0 rfl rfl ?_
 refine s0 (hop_build (hs:=[(0,1,_),(1,1,_),(2,1,_)]) st_88 rfl rfl ⟨rfl,rfl,rfl,rfl,rfl,⟨rfl,rfl,rfl,rfl,rfl,⟨rfl,rfl,rfl,rfl,rfl,trivial⟩⟩⟩) ?_
 refine hm_1 47 (hop_buildSlice (id:=47) (hs:=[_,_]) ei_48 omx rfl omx ⟨rfl,rfl,rfl,rfl,⟨rfl,rfl,rfl,rfl,trivial⟩⟩) rfl rfl pre0 rfl rfl (c':=2) rfl ?_
 refine sa<|snl h5<|hw_ret ?_
 refine hq_ret1 rfl (rval_tmp rfl) [(47,_)] rfl (preC rfl pre0) ?_
 rw [mapV2 om];exact fz_row (l:=[(⟨s.f,s.gf - s.f,s.ins⟩:Rg),⟨s.gt,s.t - s.gt,(s.sl.length:Int) - s.ins⟩]) (enc:=rgF) (d:=default) (List.mem_cons_self ..) rfl rfl (Nat.le_refl _) (fz_rg2 rfl rfl rfl rfl rfl rfl)
theorem marR_h (s:St):HPure Try.prog 101 [stV s] (rgsV []):=by
 refine hpure_of Try.func101 rfl kr _ _ _ rfl 3 rfl rfl (fun w F=>?_)
 refine srg fun N h1=>?_
 refine hm_1 1 (hop_box (id:=1) (sz:=10) rfl rfl rfl omx omx) rfl rfl pre0 rfl rfl (c':=1) rfl ?_
 refine sa<|snl h1<|srg fun N h2=>sa<|snl h2<|hw_ret ?_
 refine hq_ret1 rfl (rval_tmp rfl) [] rfl pre0 ?_
 exact .nil _ _ _ (by decide) _
theorem remR_h (s:St):HPure Try.prog 106 [stV s] (rgsV []):=by
 refine hpure_of Try.func106 rfl kr _ _ _ rfl 3 rfl rfl (fun w F=>?_)
 refine srg fun N h1=>?_
 refine hm_1 1 (hop_box (id:=1) (sz:=10) rfl rfl rfl omx omx) rfl rfl pre0 rfl rfl (c':=1) rfl ?_
 refine sa<|snl h1<|srg fun N h2=>sa<|snl h2<|hw_ret ?_
 refine hq_ret1 rfl (rval_tmp rfl) [] rfl pre0 ?_
 exact .nil _ _ _ (by decide) _
def KT (s:St) (T:TypeId):Prop:=(s.k=1∧T=129)∨(s.k=2∧T=130)∨((s.k=3∨s.k=4)∧T=131)∨(s.k=5∧T=132)
theorem of_h (s:St) (T:TypeId) (hT:KT s T):HPure Try.prog 62 [stV s] (.ifc T (stV s)):=by
 unfold KT at hT
 refine hpure_of Try.func62 rfl kr _ _ _ rfl 26 rfl rfl (fun w F=>?_)
 refine srg fun N h1=>?_
 refine hm_1 1 (hop_box (id:=1) (sz:=10) rfl rfl rfl omx omx) rfl rfl pre0 rfl rfl (c':=1) rfl ?_
 refine sa<|snl h1<|hw_seq fun Nh2 h2=>srg fun N h3=>?_
 first
 | refine hq_ 3 (hop_fa fd_26_0 rfl) rfl rfl pre0 rfl rfl ?_
 | refine hq_ 3 (hop_fa_fp fd_26_0 rfl (by first | exact Nat.le_of_ble_eq_true rfl | omega | (dsimp only;omega) | (simp <;> omega))) rfl rfl pre0 rfl rfl ?_
 first
 | refine hq_ 4 (HOp.val (v':=intV s.k) (hol_load ty_3 rfl (by first | exact Nat.le_of_ble_eq_true rfl | omega | (dsimp only;omega) | (simp <;> omega)) (by first | exact Nat.le_of_ble_eq_true rfl | omega | (dsimp only;omega) | (simp <;> omega)) (fun h=>(by first | rfl | cases h))) (rfl)) rfl rfl (pre1 rfl) rfl rfl ?_
 | refine hq_ 4 (HOp.val (v':=intV s.k) (hop_load_fp ty_3 rfl (by first | exact Nat.le_of_ble_eq_true rfl | omega | (dsimp only;omega) | (simp <;> omega)) (fun h=>(by first | rfl | cases h))) (rfl)) rfl rfl pre0 rfl rfl ?_
 refine snl h3<|hw_block<|srg fun N h4=>?_
 refine s0 hqi ?_
 refine sa<|snl h4 ?_
 refine wc (fun hc0=>?_) (fun hc0=>?_)
 ·have hr0:=hc0;(try simp only [hcs,Int.reduceToNat] at hc0)
  refine srg fun N h5=>?_
  first
  | refine hq_ 7 (hol_load ty_26 rfl (by first | exact Nat.le_of_ble_eq_true rfl | omega | (dsimp only;omega) | (simp <;> omega)) (by first | exact Nat.le_of_ble_eq_true rfl | omega | (dsimp only;omega) | (simp <;> omega)) (fun h=>(by first | rfl | cases h))) rfl rfl (pre1 rfl) rfl rfl ?_
  | refine hq_ 7 (hop_load_fp ty_26 rfl (by first | exact Nat.le_of_ble_eq_true rfl | omega | (dsimp only;omega) | (simp <;> omega)) (fun h=>(by first | rfl | cases h))) rfl rfl pre0 rfl rfl ?_
  refine s0 (hop_build (hs:=[(0,10,_)]) st_129 rfl rfl ⟨rfl,rfl,rfl,rfl,rfl,trivial⟩) ?_
  refine s0 (hop_iface kr rfl) ?_
  refine sa<|snl h5<|hw_ret<|hq_block_ret<|hq_then_ret ?_
  refine hq_ret1 rfl (rval_tmp rfl) [] rfl pre0 ?_
  obtain rfl:T=129:=(by rcases hT with h | h | h | h <;> first | exact h.2 | omega);exact .ifc _ _ _ (fz_agg10 fzc fzc fzc fzc fzc fzc fzc fzc (by exact fz_toks s.sl) (by exact fz_mkss s.sets))
 have hr0:=hc0;(try simp only [hcs,Int.reduceToNat] at hc0)
 refine srg fun N h6=>?_
 refine s0 hqi ?_
 refine sa<|snl h6 ?_
 refine wc (fun hc1=>?_) (fun hc1=>?_)
 ·have hr1:=hc1;(try simp only [hcs,Int.reduceToNat] at hc1)
  refine srg fun N h7=>?_
  first
  | refine hq_ 12 (hol_load ty_26 rfl (by first | exact Nat.le_of_ble_eq_true rfl | omega | (dsimp only;omega) | (simp <;> omega)) (by first | exact Nat.le_of_ble_eq_true rfl | omega | (dsimp only;omega) | (simp <;> omega)) (fun h=>(by first | rfl | cases h))) rfl rfl (pre1 rfl) rfl rfl ?_
  | refine hq_ 12 (hop_load_fp ty_26 rfl (by first | exact Nat.le_of_ble_eq_true rfl | omega | (dsimp only;omega) | (simp <;> omega)) (fun h=>(by first | rfl | cases h))) rfl rfl pre0 rfl rfl ?_
  refine s0 (hop_build (hs:=[(0,10,_)]) st_130 rfl rfl ⟨rfl,rfl,rfl,rfl,rfl,trivial⟩) ?_
  refine s0 (hop_iface kr rfl) ?_
  refine sa<|snl h7<|hw_ret<|hq_block_ret<|hq_then_ret ?_
  refine hq_ret1 rfl (rval_tmp rfl) [] rfl pre0 ?_
  obtain rfl:T=130:=(by rcases hT with h | h | h | h <;> first | exact h.2 | omega);exact .ifc _ _ _ (fz_agg10 fzc fzc fzc fzc fzc fzc fzc fzc (by exact fz_toks s.sl) (by exact fz_mkss s.sets))
 have hr1:=hc1;(try simp only [hcs,Int.reduceToNat] at hc1)
 refine hw_seq fun Nh8 h8=>srg fun N h9=>?_
 refine s0 hqi ?_
 refine sa<|snl h9 ?_
 refine wc (fun hc2=>?_) (fun hc2=>?_)
 ·have hr2:=hc2;(try simp only [hcs,Int.reduceToNat] at hc2)
  refine hw_skip<|h8 _ ?_
  refine wc (fun hc3=>?_) (fun hc3=>?_)
  ·have hr3:=hc3;(try simp only [hcs,Int.reduceToNat] at hc3)
   refine srg fun N h10=>?_
   first
   | refine hq_ 18 (hol_load ty_26 rfl (by first | exact Nat.le_of_ble_eq_true rfl | omega | (dsimp only;omega) | (simp <;> omega)) (by first | exact Nat.le_of_ble_eq_true rfl | omega | (dsimp only;omega) | (simp <;> omega)) (fun h=>(by first | rfl | cases h))) rfl rfl (pre1 rfl) rfl rfl ?_
   | refine hq_ 18 (hop_load_fp ty_26 rfl (by first | exact Nat.le_of_ble_eq_true rfl | omega | (dsimp only;omega) | (simp <;> omega)) (fun h=>(by first | rfl | cases h))) rfl rfl pre0 rfl rfl ?_
   refine s0 (hop_build (hs:=[(0,10,_)]) st_131 rfl rfl ⟨rfl,rfl,rfl,rfl,rfl,trivial⟩) ?_
   refine s0 (hop_iface kr rfl) ?_
   refine sa<|snl h10<|hw_ret<|hq_block_ret<|hq_then_ret ?_
   refine hq_ret1 rfl (rval_tmp rfl) [] rfl pre0 ?_
   obtain rfl:T=131:=(by rcases hT with h | h | h | h <;> first | exact h.2 | omega);exact .ifc _ _ _ (fz_agg10 fzc fzc fzc fzc fzc fzc fzc fzc (by exact fz_toks s.sl) (by exact fz_mkss s.sets))
  have hr3:=hc3;(try simp only [hcs,Int.reduceToNat] at hc3)
  refine srg fun N h11=>?_
  refine s0 hqi ?_
  refine sa<|snl h11 ?_
  refine wc (fun hc4=>?_) (fun hc4=>?_)
  ·have hr4:=hc4;(try simp only [hcs,Int.reduceToNat] at hc4)
   refine srg fun N h12=>?_
   first
   | refine hq_ 23 (hol_load ty_26 rfl (by first | exact Nat.le_of_ble_eq_true rfl | omega | (dsimp only;omega) | (simp <;> omega)) (by first | exact Nat.le_of_ble_eq_true rfl | omega | (dsimp only;omega) | (simp <;> omega)) (fun h=>(by first | rfl | cases h))) rfl rfl (pre1 rfl) rfl rfl ?_
   | refine hq_ 23 (hop_load_fp ty_26 rfl (by first | exact Nat.le_of_ble_eq_true rfl | omega | (dsimp only;omega) | (simp <;> omega)) (fun h=>(by first | rfl | cases h))) rfl rfl pre0 rfl rfl ?_
   refine s0 (hop_build (hs:=[(0,10,_)]) st_132 rfl rfl ⟨rfl,rfl,rfl,rfl,rfl,trivial⟩) ?_
   refine s0 (hop_iface kr rfl) ?_
   refine sa<|snl h12<|hw_ret<|hq_block_ret<|hq_then_ret ?_
   refine hq_ret1 rfl (rval_tmp rfl) [] rfl pre0 ?_
   obtain rfl:T=132:=(by rcases hT with h | h | h | h <;> first | exact h.2 | omega);exact .ifc _ _ _ (fz_agg10 fzc fzc fzc fzc fzc fzc fzc fzc (by exact fz_toks s.sl) (by exact fz_mkss s.sets))
  have hr4:=hc4;(try simp only [hcs,Int.reduceToNat] at hc4)
  refine hw_skip<|hq_block<|h2 _<|srg fun N h13=>sa<|snl h13<|hw_ret ?_
  refine hq_ret1 rfl (rval_tmp rfl) [] rfl pre0 ?_
  exfalso;omega
 have hr2:=hc2;(try simp only [hcs,Int.reduceToNat] at hc2)
 refine hw_region ?_
 refine s0 hqi ?_
 refine sa<|snl h8 ?_
 refine wc (fun hc3=>?_) (fun hc3=>?_)
 ·have hr3:=hc3;(try simp only [hcs,Int.reduceToNat] at hc3)
  refine srg fun N h14=>?_
  first
  | refine hq_ 18 (hol_load ty_26 rfl (by first | exact Nat.le_of_ble_eq_true rfl | omega | (dsimp only;omega) | (simp <;> omega)) (by first | exact Nat.le_of_ble_eq_true rfl | omega | (dsimp only;omega) | (simp <;> omega)) (fun h=>(by first | rfl | cases h))) rfl rfl (pre1 rfl) rfl rfl ?_
  | refine hq_ 18 (hop_load_fp ty_26 rfl (by first | exact Nat.le_of_ble_eq_true rfl | omega | (dsimp only;omega) | (simp <;> omega)) (fun h=>(by first | rfl | cases h))) rfl rfl pre0 rfl rfl ?_
  refine s0 (hop_build (hs:=[(0,10,_)]) st_131 rfl rfl ⟨rfl,rfl,rfl,rfl,rfl,trivial⟩) ?_
  refine s0 (hop_iface kr rfl) ?_
  refine sa<|snl h14<|hw_ret<|hq_block_ret<|hq_then_ret ?_
  refine hq_ret1 rfl (rval_tmp rfl) [] rfl pre0 ?_
  obtain rfl:T=131:=(by rcases hT with h | h | h | h <;> first | exact h.2 | omega);exact .ifc _ _ _ (fz_agg10 fzc fzc fzc fzc fzc fzc fzc fzc (by exact fz_toks s.sl) (by exact fz_mkss s.sets))
 have hr3:=hc3;(try simp only [hcs,Int.reduceToNat] at hc3)
 refine srg fun N h15=>?_
 refine s0 hqi ?_
 refine sa<|snl h15 ?_
 refine wc (fun hc4=>?_) (fun hc4=>?_)
 ·have hr4:=hc4;(try simp only [hcs,Int.reduceToNat] at hc4)
  refine srg fun N h16=>?_
  first
  | refine hq_ 23 (hol_load ty_26 rfl (by first | exact Nat.le_of_ble_eq_true rfl | omega | (dsimp only;omega) | (simp <;> omega)) (by first | exact Nat.le_of_ble_eq_true rfl | omega | (dsimp only;omega) | (simp <;> omega)) (fun h=>(by first | rfl | cases h))) rfl rfl (pre1 rfl) rfl rfl ?_
  | refine hq_ 23 (hop_load_fp ty_26 rfl (by first | exact Nat.le_of_ble_eq_true rfl | omega | (dsimp only;omega) | (simp <;> omega)) (fun h=>(by first | rfl | cases h))) rfl rfl pre0 rfl rfl ?_
  refine s0 (hop_build (hs:=[(0,10,_)]) st_132 rfl rfl ⟨rfl,rfl,rfl,rfl,rfl,trivial⟩) ?_
  refine s0 (hop_iface kr rfl) ?_
  refine sa<|snl h16<|hw_ret<|hq_block_ret<|hq_then_ret ?_
  refine hq_ret1 rfl (rval_tmp rfl) [] rfl pre0 ?_
  obtain rfl:T=132:=(by rcases hT with h | h | h | h <;> first | exact h.2 | omega);exact .ifc _ _ _ (fz_agg10 fzc fzc fzc fzc fzc fzc fzc fzc (by exact fz_toks s.sl) (by exact fz_mkss s.sets))
 have hr4:=hc4;(try simp only [hcs,Int.reduceToNat] at hc4)
 refine hw_skip<|hq_block<|h2 _<|srg fun N h17=>sa<|snl h17<|hw_ret ?_
 refine hq_ret1 rfl (rval_tmp rfl) [] rfl pre0 ?_
 exfalso;omega
theorem map_h (s:St) (hs:s.shape=true):HPure Try.prog 54 [stV s] (rgsV (mapV s)):=by
 obtain ⟨q1,q2,q3,q4,q5⟩:=shape_in hs
 refine hpure_of Try.func54 rfl kr _ _ _ rfl 9 rfl rfl (fun w F=>?_)
 refine srg fun N h1=>?_
 refine hm_1 1 (hop_box (id:=1) (sz:=10) rfl rfl rfl omx omx) rfl rfl pre0 rfl rfl (c':=1) rfl ?_
 refine sa<|snl h1<|hw_seq fun Nh2 h2=>srg fun N h3=>?_
 first
 | refine hq_ 3 (hol_load ty_26 rfl (by first | exact Nat.le_of_ble_eq_true rfl | omega | (dsimp only;omega) | (simp <;> omega)) (by first | exact Nat.le_of_ble_eq_true rfl | omega | (dsimp only;omega) | (simp <;> omega)) (fun h=>(by first | rfl | cases h))) rfl rfl (pre1 rfl) rfl rfl ?_
 | refine hq_ 3 (hop_load_fp ty_26 rfl (by first | exact Nat.le_of_ble_eq_true rfl | omega | (dsimp only;omega) | (simp <;> omega)) (fun h=>(by first | rfl | cases h))) rfl rfl pre0 rfl rfl ?_
 refine s0 (hop_call0 (xs:=[_]) (shape_h s om om) ⟨rfl,trivial⟩ ⟨fe,trivial⟩) ?_
 refine s0 (hop_not rfl) ?_
 refine snl h3 ?_
 refine wc (fun hc0=>?_) (fun hc0=>?_)
 ·have hr0:=hc0;(try simp only [hcs,Int.reduceToNat] at hc0)
  exfalso;rw [hs] at hr0;cases hr0
 have hr0:=hc0;(try simp only [hcs,Int.reduceToNat] at hc0)
 refine hw_skip<|h2 _<|hw_seq fun Nh4 h4=>?_
 rcases kind_in hs with hk | hk | hk | hk
 ·skip
  refine hw_region ?_
  first
  | refine hq_ 6 (hol_load ty_26 rfl (by first | exact Nat.le_of_ble_eq_true rfl | omega | (dsimp only;omega) | (simp <;> omega)) (by first | exact Nat.le_of_ble_eq_true rfl | omega | (dsimp only;omega) | (simp <;> omega)) (fun h=>(by first | rfl | cases h))) rfl rfl (pre1 rfl) rfl rfl ?_
  | refine hq_ 6 (hop_load_fp ty_26 rfl (by first | exact Nat.le_of_ble_eq_true rfl | omega | (dsimp only;omega) | (simp <;> omega)) (fun h=>(by first | rfl | cases h))) rfl rfl pre0 rfl rfl ?_
  refine s0 (hop_call0 (xs:=[_]) (of_h s 129 (.inl ⟨hk,rfl⟩)) ⟨rfl,trivial⟩ ⟨fe,trivial⟩) ?_
  refine s0 (hop_invoke0 (xs:=[]) (args:=[]) (fun n v w=>by kernel_rfl) (splR_h s hs) rfl trivial ⟨Frz.fz,trivial⟩) ?_
  refine sa<|snl h4<|hw_ret ?_
  refine hq_ret1 rfl (rval_tmp rfl) [] rfl pre0 ?_
  rw [mapV1 om om];exact Frz.fz
 ·skip
  refine hw_region ?_
  first
  | refine hq_ 6 (hol_load ty_26 rfl (by first | exact Nat.le_of_ble_eq_true rfl | omega | (dsimp only;omega) | (simp <;> omega)) (by first | exact Nat.le_of_ble_eq_true rfl | omega | (dsimp only;omega) | (simp <;> omega)) (fun h=>(by first | rfl | cases h))) rfl rfl (pre1 rfl) rfl rfl ?_
  | refine hq_ 6 (hop_load_fp ty_26 rfl (by first | exact Nat.le_of_ble_eq_true rfl | omega | (dsimp only;omega) | (simp <;> omega)) (fun h=>(by first | rfl | cases h))) rfl rfl pre0 rfl rfl ?_
  refine s0 (hop_call0 (xs:=[_]) (of_h s 130 (.inr (.inl ⟨hk,rfl⟩))) ⟨rfl,trivial⟩ ⟨fe,trivial⟩) ?_
  refine s0 (hop_invoke0 (xs:=[]) (args:=[]) (fun n v w=>by kernel_rfl) (aroR_h s hs hk) rfl trivial ⟨Frz.fz,trivial⟩) ?_
  refine sa<|snl h4<|hw_ret ?_
  refine hq_ret1 rfl (rval_tmp rfl) [] rfl pre0 ?_
  exact Frz.fz
 ·skip
  refine hw_region ?_
  first
  | refine hq_ 6 (hol_load ty_26 rfl (by first | exact Nat.le_of_ble_eq_true rfl | omega | (dsimp only;omega) | (simp <;> omega)) (by first | exact Nat.le_of_ble_eq_true rfl | omega | (dsimp only;omega) | (simp <;> omega)) (fun h=>(by first | rfl | cases h))) rfl rfl (pre1 rfl) rfl rfl ?_
  | refine hq_ 6 (hop_load_fp ty_26 rfl (by first | exact Nat.le_of_ble_eq_true rfl | omega | (dsimp only;omega) | (simp <;> omega)) (fun h=>(by first | rfl | cases h))) rfl rfl pre0 rfl rfl ?_
  refine s0 (hop_call0 (xs:=[_]) (of_h s 131 (.inr (.inr (.inl ⟨hk,rfl⟩)))) ⟨rfl,trivial⟩ ⟨fe,trivial⟩) ?_
  refine s0 (hop_invoke0 (xs:=[]) (args:=[]) (fun n v w=>by kernel_rfl) (marR_h s) rfl trivial ⟨Frz.fz,trivial⟩) ?_
  refine sa<|snl h4<|hw_ret ?_
  refine hq_ret1 rfl (rval_tmp rfl) [] rfl pre0 ?_
  rw [mapV0 om];exact Frz.fz
 ·skip
  refine hw_region ?_
  first
  | refine hq_ 6 (hol_load ty_26 rfl (by first | exact Nat.le_of_ble_eq_true rfl | omega | (dsimp only;omega) | (simp <;> omega)) (by first | exact Nat.le_of_ble_eq_true rfl | omega | (dsimp only;omega) | (simp <;> omega)) (fun h=>(by first | rfl | cases h))) rfl rfl (pre1 rfl) rfl rfl ?_
  | refine hq_ 6 (hop_load_fp ty_26 rfl (by first | exact Nat.le_of_ble_eq_true rfl | omega | (dsimp only;omega) | (simp <;> omega)) (fun h=>(by first | rfl | cases h))) rfl rfl pre0 rfl rfl ?_
  refine s0 (hop_call0 (xs:=[_]) (of_h s 132 (.inr (.inr (.inr ⟨hk,rfl⟩)))) ⟨rfl,trivial⟩ ⟨fe,trivial⟩) ?_
  refine s0 (hop_invoke0 (xs:=[]) (args:=[]) (fun n v w=>by kernel_rfl) (remR_h s) rfl trivial ⟨Frz.fz,trivial⟩) ?_
  refine sa<|snl h4<|hw_ret ?_
  refine hq_ret1 rfl (rval_tmp rfl) [] rfl pre0 ?_
  rw [mapV0 om];exact Frz.fz
def shF (g:Nat) (bad:Bool):Nat→HV
 | 0=>.bnd (.func 25) (.pt 9101 g 0 0)
 | _=>boolV bad
@[reducible] def shO (gs g:Nat) (bad:Bool):HObj:=⟨gs,1,2,99,0,fun _=>shF g bad⟩
@[reducible] def stO (g:Nat) (s:St):HObj:=⟨g,1,10,26,0,fun _=>stF s⟩
theorem okz_sh {kp sh:List (Nat×HObj)} {gs g:Nat} {b b':Bool} {F:Nat→Nat→HV} {o1:HObj} (h0:F 0 0=.bnd (.func 25) (.pt 9101 g 0 0)) (h1:F 0 1=boolV b) (hb:b=b') (ho:hget kp 9101=some o1) (hg:o1.g=g):OKz kp sh ⟨gs,1,2,99,0,F⟩ (shO gs g b'):=.of fun i j hi hj=>by
 obtain rfl:i=0:=by omega
 subst hb
 match j,hj with
 | 0,_=>rw [h0];exact .bnd _ _ _ (.pt _ _ _ _ _ ho hg)
 | 1,_=>rw [h1];exact .fz _ _ (.imm _)
theorem osub_sh {gs g:Nat} {b:Bool} {F:Nat→Nat→HV} (h0:F 0 0=.bnd (.func 25) (.pt 9101 g 0 0)) (h1:F 0 1=boolV b):OSub ⟨gs,1,2,99,0,F⟩ (shO gs g b):=OSub.of fun i j hi hj=>by
 obtain rfl:i=0:=by omega
 match j,hj with
 | 0,_=>rw [h0];exact .refl _
 | 1,_=>rw [h1];exact .refl _
theorem okz_st {kp sh:List (Nat×HObj)} {g:Nat} {F:Nat→Nat→HV} {s:St} (h:Fz sh (.agg 10 (F 0)) (.agg 10 (stF s))):OKz kp sh ⟨g,1,10,26,0,F⟩ (stO g s):=.of fun i j hi hj=>by
 obtain rfl:i=0:=by omega
 cases h with
 | agg _ _ _ h=>exact .fz _ _ (h j hj)
theorem bne_dec (x:Int):(x != 0)=decide (x≠0):=by by_cases h:x=0 <;> simp [h]
theorem rowI_stop {tl:TF} {f fr:Int} {n i:Nat} {bad:Bool} (hi:i < n) (h:(tl (f+i) 1).1.gone=true∨(tl (f+i) 1).1.pos≠fr+i):rowI tl f fr (n - i) i bad=(false,bad||decide ((tl (f+i) 1).2≠0)):=by
 rw [show n - i=(n - (i+1))+1 by omega,rowI,if_pos h]
theorem rowI_go {tl:TF} {f fr:Int} {n i:Nat} {bad:Bool} (hi:i < n) (h:¬ ((tl (f+i) 1).1.gone=true∨(tl (f+i) 1).1.pos≠fr+i)):rowI tl f fr (n - i) i bad=rowI tl f fr (n - (i+1)) (i+1) (bad||decide ((tl (f+i) 1).2≠0)):=by
 rw [show n - i=(n - (i+1))+1 by omega,rowI,if_neg h]
theorem rowI_end {tl:TF} {f fr:Int} {n i:Nat} {bad:Bool} (hi:n≤i):rowI tl f fr (n - i) i bad=(true,bad):=by
 rw [show n - i=0 by omega];rfl
theorem atN_h (gs:Nat) (bad:Bool) (g g2:Nat) (L:List (List Rg)) (hL:L.length≤100000) (hok:RtOk L []) (pos side:Int):HFunD Try.prog 49 [.pt 9201 gs 0 0,intV pos,intV side] [(9201,shO gs g bad),(9101,rtO g (.os 9102 g2 0 L.length) (.imm (.map none))),(9102,mpsO g2 L)] (plcH ((routeV L []) pos side).1) [(9201,shO gs g (bad||decide (((routeV L []) pos side).2≠0))),(9101,rtO g (.os 9102 g2 0 L.length) (.imm (.map none))),(9102,mpsO g2 L)]:=by
 intro c
 refine hfun_of Try.func49 rfl kr _ _ _ _ rfl 31 rfl rfl (fun X ok hX=>?_)
 refine srg fun N h1=>?_
 refine hm_1 6 (hop_alloc (id:=6) (sz:=5) zc_100 rfl rfl omx omx) rfl rfl pre0 rfl rfl (c':=c+1) rfl ?_
 refine snl h1<|srg fun N h2=>sm ?_
 first
 | refine hq_ 11 (hop_nilcheck_pt rfl) rfl rfl pre0 rfl rfl ?_
 | refine hq_ 11 (hop_nilcheck_fp rfl) rfl rfl pre0 rfl rfl ?_
 first
 | refine hq_ 12 (hop_fa fd_99_0 rfl) rfl rfl pre0 rfl rfl ?_
 | refine hq_ 12 (hop_fa_fp fd_99_0 rfl (by first | exact Nat.le_of_ble_eq_true rfl | omega | (dsimp only;omega) | (simp <;> omega))) rfl rfl pre0 rfl rfl ?_
 first
 | refine hq_ 13 (hol_load ty_60 rfl (by first | exact Nat.le_of_ble_eq_true rfl | omega | (dsimp only;omega) | (simp <;> omega)) (by first | exact Nat.le_of_ble_eq_true rfl | omega | (dsimp only;omega) | (simp <;> omega)) (fun h=>(by first | rfl | cases h))) rfl rfl (pre1 rfl) rfl rfl ?_
 | refine hq_ 13 (hop_load_fp ty_60 rfl (by first | exact Nat.le_of_ble_eq_true rfl | omega | (dsimp only;omega) | (simp <;> omega)) (fun h=>(by first | rfl | cases h))) rfl rfl pre0 rfl rfl ?_
 refine sm<|sm ?_
 refine hf_callBR 16 (xs:=[_,_]) (pre:=[(9101,_),(9102,_)]) (tellN_h g g2 L hL hok pos side _) rfl ⟨rfl,⟨rfl,trivial⟩⟩ (preC rfl (preC rfl pre0)) rfl rfl (fun x1 c1 hx1=>?_)
 (try dsimp only)
 refine sm ?_
 refine s0 hex ?_
 refine s0 hex ?_
 refine hm_1 7 (hop_alloc (id:=7) (sz:=5) zc_100 rfl rfl omx omx) rfl rfl pre0 rfl rfl (c':=c1+1) rfl ?_
 first
 | refine hm_s1 (hol_storeW ty_100 rfl rfl rfl rfl) rfl rfl (pre1 rfl) (c':=c1+2) rfl ?_
 | refine hm_s1 (hol_store ty_100 rfl rfl rfl rfl (by first | exact Nat.le_of_ble_eq_true rfl | omega | (dsimp only;omega) | (simp <;> omega)) (by first | exact Nat.le_of_ble_eq_true rfl | omega | (dsimp only;omega) | (simp <;> omega)) (by first | exact Nat.le_of_ble_eq_true rfl | omega | (dsimp only;omega) | (simp <;> omega))) rfl rfl (pre1 rfl) (c':=c1+2) rfl ?_
 refine sa<|snl h2<|srg fun N h3=>sm<|sm ?_
 first
 | refine hq_ 21 (hop_nilcheck_pt rfl) rfl rfl pre0 rfl rfl ?_
 | refine hq_ 21 (hop_nilcheck_fp rfl) rfl rfl pre0 rfl rfl ?_
 first
 | refine hq_ 22 (hop_fa fd_99_1 rfl) rfl rfl pre0 rfl rfl ?_
 | refine hq_ 22 (hop_fa_fp fd_99_1 rfl (by first | exact Nat.le_of_ble_eq_true rfl | omega | (dsimp only;omega) | (simp <;> omega))) rfl rfl pre0 rfl rfl ?_
 first
 | refine hq_ 23 (hol_load ty_4 rfl (by first | exact Nat.le_of_ble_eq_true rfl | omega | (dsimp only;omega) | (simp <;> omega)) (by first | exact Nat.le_of_ble_eq_true rfl | omega | (dsimp only;omega) | (simp <;> omega)) (fun h=>(by first | rfl | cases h))) rfl rfl (pre1 rfl) rfl rfl ?_
 | refine hq_ 23 (hop_load_fp ty_4 rfl (by first | exact Nat.le_of_ble_eq_true rfl | omega | (dsimp only;omega) | (simp <;> omega)) (fun h=>(by first | rfl | cases h))) rfl rfl pre0 rfl rfl ?_
 refine sm ?_
 first
 | refine stg 24 (fun hb=>hop_move rfl) rfl rfl rfl rfl rfl ?_
 | refine sth 24 (fun hb=>hop_move rfl) rfl rfl rfl rfl rfl ?_
 first
 | refine stg 24 (fun hb=>hop_neq rfl rfl) rfl rfl rfl rfl rfl ?_
 | refine sth 24 (fun hb=>hop_neq rfl rfl) rfl rfl rfl rfl rfl ?_
 first
 | refine hq_p 27 (hstep_and _ _ rfl rfl rfl) rfl rfl rfl ?_
 | refine hq_p 27 (hstep_or _ _ rfl rfl rfl) rfl rfl rfl ?_
 | refine hq_p 27 (hstep_ite _ _ _ rfl rfl rfl) rfl rfl rfl ?_
 | refine hq_p 27 (hstep_pick _ _ _ _ rfl rfl rfl (fun _=>.refl _) (fun _=>.refl _)) rfl rfl rfl ?_
 first
 | refine hq_ 28 (hop_nilcheck_pt rfl) rfl rfl pre0 rfl rfl ?_
 | refine hq_ 28 (hop_nilcheck_fp rfl) rfl rfl pre0 rfl rfl ?_
 first
 | refine hq_ 29 (hop_fa fd_99_1 rfl) rfl rfl pre0 rfl rfl ?_
 | refine hq_ 29 (hop_fa_fp fd_99_1 rfl (by first | exact Nat.le_of_ble_eq_true rfl | omega | (dsimp only;omega) | (simp <;> omega))) rfl rfl pre0 rfl rfl ?_
 first
 | refine hm_s1 (hol_storeW ty_4 rfl rfl rfl rfl) rfl rfl (pre1 rfl) (c':=c1+3) rfl ?_
 | refine hm_s1 (hol_store ty_4 rfl rfl rfl rfl (by first | exact Nat.le_of_ble_eq_true rfl | omega | (dsimp only;omega) | (simp <;> omega)) (by first | exact Nat.le_of_ble_eq_true rfl | omega | (dsimp only;omega) | (simp <;> omega)) (by first | exact Nat.le_of_ble_eq_true rfl | omega | (dsimp only;omega) | (simp <;> omega))) rfl rfl (pre1 rfl) (c':=c1+3) rfl ?_
 refine nu ?_
 refine h3 _<|srg fun N h4=>?_
 first
 | refine hq_ 30 (hol_load ty_100 rfl (by first | exact Nat.le_of_ble_eq_true rfl | omega | (dsimp only;omega) | (simp <;> omega)) (by first | exact Nat.le_of_ble_eq_true rfl | omega | (dsimp only;omega) | (simp <;> omega)) (fun h=>(by first | rfl | cases h))) rfl rfl (pre1 rfl) rfl rfl ?_
 | refine hq_ 30 (hop_load_fp ty_100 rfl (by first | exact Nat.le_of_ble_eq_true rfl | omega | (dsimp only;omega) | (simp <;> omega)) (fun h=>(by first | rfl | cases h))) rfl rfl pre0 rfl rfl ?_
 first
 | refine hm_s1 (hol_storeW ty_100 rfl rfl rfl rfl) rfl rfl (pre1 rfl) (c':=c1+4) rfl ?_
 | refine hm_s1 (hol_store ty_100 rfl rfl rfl rfl (by first | exact Nat.le_of_ble_eq_true rfl | omega | (dsimp only;omega) | (simp <;> omega)) (by first | exact Nat.le_of_ble_eq_true rfl | omega | (dsimp only;omega) | (simp <;> omega)) (by first | exact Nat.le_of_ble_eq_true rfl | omega | (dsimp only;omega) | (simp <;> omega))) rfl rfl (pre1 rfl) (c':=c1+4) rfl ?_
 refine snl h4<|hw_ret ?_
 refine hf_retR1 ok hX RetS.one rfl (rvl_cell rfl rfl ty_100 rqc rfl rfl) [] rfl pre0 (()) (trivial) (by rfl) (by rfl) ((.fz _ _ (fz_plc (by exact j5i rfl rfl rfl rfl rfl)))) ?_
 exact ⟨⟨_,rfl,(okz_sh rfl rfl (by rw [bne_dec]) rfl rfl)⟩,⟨⟨_,rfl,(okz_rtN rfl rfl rfl rfl rfl)⟩,⟨⟨_,rfl,okz_mps⟩,trivial⟩⟩⟩
theorem rowN_h (gs:Nat) (bad:Bool) (g g2:Nat) (L:List (List Rg)) (hL:L.length≤100000) (hok:RtOk L []) (s:St) (fr:Int) (hx:0≤s.f∧s.f≤s.t∧s.t≤1073741824) (hfr:-4398046511104≤fr∧fr≤4398046511104):HFunD Try.prog 63 [.pt 9201 gs 0 0,stV s,intV fr] [(9201,shO gs g bad),(9101,rtO g (.os 9102 g2 0 L.length) (.imm (.map none))),(9102,mpsO g2 L)] (boolV (rowI (routeV L []) s.f fr (s.t - s.f).toNat 0 bad).1) [(9201,shO gs g (rowI (routeV L []) s.f fr (s.t - s.f).toNat 0 bad).2),(9101,rtO g (.os 9102 g2 0 L.length) (.imm (.map none))),(9102,mpsO g2 L)]:=by
 intro c
 refine hfun_of Try.func63 rfl kr _ _ _ _ rfl 34 rfl rfl (fun X ok hX=>?_)
 refine srg fun N h1=>?_
 refine hm_1 4 (hop_box (id:=4) (sz:=10) rfl rfl rfl omx omx) rfl rfl pre0 rfl rfl (c':=c+1) rfl ?_
 refine sa<|snl h1<|hw_seq fun Nh2 h2=>hw_seq fun Nh3 h3=>?_
 let c0:=c
 refine hw_region ?_
 first
 | refine hq_ 9 (hop_fa fd_26_2 rfl) rfl rfl pre0 rfl rfl ?_
 | refine hq_ 9 (hop_fa_fp fd_26_2 rfl (by first | exact Nat.le_of_ble_eq_true rfl | omega | (dsimp only;omega) | (simp <;> omega))) rfl rfl pre0 rfl rfl ?_
 first
 | refine hq_ 10 (HOp.val (v':=intV s.t) (hol_load ty_3 rfl (by first | exact Nat.le_of_ble_eq_true rfl | omega | (dsimp only;omega) | (simp <;> omega)) (by first | exact Nat.le_of_ble_eq_true rfl | omega | (dsimp only;omega) | (simp <;> omega)) (fun h=>(by first | rfl | cases h))) (rfl)) rfl rfl (pre1 rfl) rfl rfl ?_
 | refine hq_ 10 (HOp.val (v':=intV s.t) (hop_load_fp ty_3 rfl (by first | exact Nat.le_of_ble_eq_true rfl | omega | (dsimp only;omega) | (simp <;> omega)) (fun h=>(by first | rfl | cases h))) (rfl)) rfl rfl pre0 rfl rfl ?_
 first
 | refine hq_ 11 (hop_fa fd_26_1 rfl) rfl rfl pre0 rfl rfl ?_
 | refine hq_ 11 (hop_fa_fp fd_26_1 rfl (by first | exact Nat.le_of_ble_eq_true rfl | omega | (dsimp only;omega) | (simp <;> omega))) rfl rfl pre0 rfl rfl ?_
 first
 | refine hq_ 12 (HOp.val (v':=intV s.f) (hol_load ty_3 rfl (by first | exact Nat.le_of_ble_eq_true rfl | omega | (dsimp only;omega) | (simp <;> omega)) (by first | exact Nat.le_of_ble_eq_true rfl | omega | (dsimp only;omega) | (simp <;> omega)) (fun h=>(by first | rfl | cases h))) (rfl)) rfl rfl (pre1 rfl) rfl rfl ?_
 | refine hq_ 12 (HOp.val (v':=intV s.f) (hop_load_fp ty_3 rfl (by first | exact Nat.le_of_ble_eq_true rfl | omega | (dsimp only;omega) | (simp <;> omega)) (fun h=>(by first | rfl | cases h))) (rfl)) rfl rfl pre0 rfl rfl ?_
 first
 | refine hq_ 13 (hop_subi rfl rfl rfl (by first | exact Nat.le_of_ble_eq_true rfl | omega | (dsimp only;omega) | (simp <;> omega)) (by first | exact Nat.le_of_ble_eq_true rfl | omega | (dsimp only;omega) | (simp <;> omega))) rfl rfl pre0 rfl rfl ?_
 | refine hq_ 13 (hop_sub rfl rfl) rfl rfl pre0 rfl rfl ?_
 refine sm<|snl h3<|hw_block ?_
 refine hw_loopc (α:=Nat×Bool) (fun x c=>⟨34,[(0,.v (.pt 9201 gs 0 0)),(2,.v (intV fr)),(4,.v (.pt 4 c0 0 0)),(13,.v (intV (s.t - s.f))),(14,.v (intV (x.1:Int)))],[(4,stO c0 s),(9201,shO gs g x.2),(9101,rtO g (.os 9102 g2 0 L.length) (.imm (.map none))),(9102,mpsO g2 L)],c⟩) (fun x=>x.1≤(s.t - s.f).toNat∧rowI (routeV L []) s.f fr ((s.t - s.f).toNat - x.1) x.1 x.2=rowI (routeV L []) s.f fr (s.t - s.f).toNat 0 bad) (fun x=>(s.t - s.f).toNat - x.1) ((0,bad)) (by exact ⟨Nat.zero_le _,rfl⟩) (hsub_of rfl (Nat.le_refl _) tsa hsa) (fun x c hx NhL4 hL4=>?_)
 revert hx hL4;obtain ⟨i,b⟩:=x;intro hx hL4;dsimp only at hx hL4 ⊢
 obtain ⟨hil,hgo⟩:=hx
 refine srg fun N h5=>?_
 refine s0 hli ?_
 refine snl h5<|hw_seq fun Nh6 h6=>?_
 refine wc (fun hc0=>?_) (fun hc0=>?_)
 ·have hr0:=hc0;(try simp only [hcs,Int.reduceToNat] at hc0)
  have hlt:i < (s.t - s.f).toNat:=om
  refine hw_skip<|h6 _<|hw_seq fun Nh7 h7=>hw_block<|srg fun N h8=>sm<|sa<|snl h8<|srg fun N h9=>sm ?_
  first
  | refine hq_ 18 (hop_fa fd_26_1 rfl) rfl rfl pre0 rfl rfl ?_
  | refine hq_ 18 (hop_fa_fp fd_26_1 rfl (by first | exact Nat.le_of_ble_eq_true rfl | omega | (dsimp only;omega) | (simp <;> omega))) rfl rfl pre0 rfl rfl ?_
  first
  | refine hq_ 19 (HOp.val (v':=intV s.f) (hol_load ty_3 rfl (by first | exact Nat.le_of_ble_eq_true rfl | omega | (dsimp only;omega) | (simp <;> omega)) (by first | exact Nat.le_of_ble_eq_true rfl | omega | (dsimp only;omega) | (simp <;> omega)) (fun h=>(by first | rfl | cases h))) (rfl)) rfl rfl (pre1 rfl) rfl rfl ?_
  | refine hq_ 19 (HOp.val (v':=intV s.f) (hop_load_fp ty_3 rfl (by first | exact Nat.le_of_ble_eq_true rfl | omega | (dsimp only;omega) | (simp <;> omega)) (fun h=>(by first | rfl | cases h))) (rfl)) rfl rfl pre0 rfl rfl ?_
  refine sm ?_
  first
  | refine hq_ 21 (hop_addi rfl rfl rfl (by first | exact Nat.le_of_ble_eq_true rfl | omega | (dsimp only;omega) | (simp <;> omega)) (by first | exact Nat.le_of_ble_eq_true rfl | omega | (dsimp only;omega) | (simp <;> omega))) rfl rfl pre0 rfl rfl ?_
  | refine hq_ 21 (hop_add rfl rfl) rfl rfl pre0 rfl rfl ?_
  refine hf_callR 22 (xs:=[_,_,_]) (pre:=[(9201,_),(9101,_),(9102,_)]) (atN_h gs b g g2 L hL hok (s.f+i) 1 _) ⟨rfl,⟨rfl,⟨rfl,trivial⟩⟩⟩ (preC rfl (preC rfl (preC rfl pre0))) rfl rfl (fun x1 c1 hx1=>?_)
  (try dsimp only)
  refine hm_1 8 (hop_alloc (id:=8) (sz:=5) zc_100 rfl rfl omx omx) rfl rfl pre0 rfl rfl (c':=c1+1) rfl ?_
  first
  | refine hm_s1 (hol_storeW ty_100 rfl rfl rfl rfl) rfl rfl (pre1 rfl) (c':=c1+2) rfl ?_
  | refine hm_s1 (hol_store ty_100 rfl rfl rfl rfl (by first | exact Nat.le_of_ble_eq_true rfl | omega | (dsimp only;omega) | (simp <;> omega)) (by first | exact Nat.le_of_ble_eq_true rfl | omega | (dsimp only;omega) | (simp <;> omega)) (by first | exact Nat.le_of_ble_eq_true rfl | omega | (dsimp only;omega) | (simp <;> omega))) rfl rfl (pre1 rfl) (c':=c1+2) rfl ?_
  refine snl h9<|srg fun N h10=>?_
  first
  | refine hq_ 23 (hop_fa fd_100_1 rfl) rfl rfl pre0 rfl rfl ?_
  | refine hq_ 23 (hop_fa_fp fd_100_1 rfl (by first | exact Nat.le_of_ble_eq_true rfl | omega | (dsimp only;omega) | (simp <;> omega))) rfl rfl pre0 rfl rfl ?_
  first
  | refine hq_ 24 (HOp.val (v':=boolV ((routeV L []) (s.f+i) 1).1.gone) (hol_load ty_4 rfl (by first | exact Nat.le_of_ble_eq_true rfl | omega | (dsimp only;omega) | (simp <;> omega)) (by first | exact Nat.le_of_ble_eq_true rfl | omega | (dsimp only;omega) | (simp <;> omega)) (fun h=>(by first | rfl | cases h))) (rfl)) rfl rfl (pre1 rfl) rfl rfl ?_
  | refine hq_ 24 (HOp.val (v':=boolV ((routeV L []) (s.f+i) 1).1.gone) (hop_load_fp ty_4 rfl (by first | exact Nat.le_of_ble_eq_true rfl | omega | (dsimp only;omega) | (simp <;> omega)) (fun h=>(by first | rfl | cases h))) (rfl)) rfl rfl pre0 rfl rfl ?_
  refine sm ?_
  first
  | refine stg 25 (fun hb=>hop_fa fd_100_0 rfl) rfl rfl rfl rfl rfl ?_
  | refine sth 25 (fun hb=>hop_fa fd_100_0 rfl) rfl rfl rfl rfl rfl ?_
  | refine stg 25 (fun hb=>hop_fa_fp fd_100_0 rfl (by first | exact Nat.le_of_ble_eq_true rfl | (simp at hb;first | omega | (dsimp only;omega) | (simp <;> omega)) | omega | (dsimp only;omega))) rfl rfl rfl rfl rfl ?_
  | refine sth 25 (fun hb=>hop_fa_fp fd_100_0 rfl (by first | exact Nat.le_of_ble_eq_true rfl | (simp at hb;first | omega | (dsimp only;omega) | (simp <;> omega)) | omega | (dsimp only;omega))) rfl rfl rfl rfl rfl ?_
  first
  | refine hq_g 27 2 25 false _ (fun hb=>HOp.val (v':=intV ((routeV L []) (s.f+i) 1).1.pos) (hol_load ty_3 rfl (by first | exact Nat.le_of_ble_eq_true rfl | (simp at hb;first | omega | (dsimp only;omega) | (simp <;> omega)) | omega | (dsimp only;omega)) (by first | exact Nat.le_of_ble_eq_true rfl | (simp at hb;first | omega | (dsimp only;omega) | (simp <;> omega)) | omega | (dsimp only;omega)) (fun h=>(by first | rfl | cases h))) (rfl)) rfl rfl rfl rfl (pre1 rfl) rfl rfl rfl ?_
  | refine hq_g2 27 2 25 _ _ false _ (fun hb=>HOp.val (v':=intV ((routeV L []) (s.f+i) 1).1.pos) (hol_load ty_3 rfl (by first | exact Nat.le_of_ble_eq_true rfl | (simp at hb;first | omega | (dsimp only;omega) | (simp <;> omega)) | omega | (dsimp only;omega)) (by first | exact Nat.le_of_ble_eq_true rfl | (simp at hb;first | omega | (dsimp only;omega) | (simp <;> omega)) | omega | (dsimp only;omega)) (fun h=>(by first | rfl | cases h))) (rfl)) rfl rfl rfl rfl (pre1 rfl) rfl rfl rfl ?_
  | refine stg 25 (fun hb=>HOp.val (v':=intV ((routeV L []) (s.f+i) 1).1.pos) (hop_load_fp ty_3 rfl (by first | exact Nat.le_of_ble_eq_true rfl | (simp at hb;first | omega | (dsimp only;omega) | (simp <;> omega)) | omega | (dsimp only;omega)) (fun h=>(by first | rfl | cases h))) (rfl)) rfl rfl rfl rfl rfl ?_
  | refine sth 25 (fun hb=>HOp.val (v':=intV ((routeV L []) (s.f+i) 1).1.pos) (hop_load_fp ty_3 rfl (by first | exact Nat.le_of_ble_eq_true rfl | (simp at hb;first | omega | (dsimp only;omega) | (simp <;> omega)) | omega | (dsimp only;omega)) (fun h=>(by first | rfl | cases h))) (rfl)) rfl rfl rfl rfl rfl ?_
  first
  | refine stg 25 (fun hb=>hop_move rfl) rfl rfl rfl rfl rfl ?_
  | refine sth 25 (fun hb=>hop_move rfl) rfl rfl rfl rfl rfl ?_
  first
  | refine stg 25 (fun hb=>hop_move rfl) rfl rfl rfl rfl rfl ?_
  | refine sth 25 (fun hb=>hop_move rfl) rfl rfl rfl rfl rfl ?_
  first
  | refine stg 25 (fun hb=>hop_addi rfl rfl rfl (by first | exact Nat.le_of_ble_eq_true rfl | (simp at hb;first | omega | (dsimp only;omega) | (simp <;> omega)) | omega | (dsimp only;omega)) (by first | exact Nat.le_of_ble_eq_true rfl | (simp at hb;first | omega | (dsimp only;omega) | (simp <;> omega)) | omega | (dsimp only;omega))) rfl rfl rfl rfl rfl ?_
  | refine sth 25 (fun hb=>hop_addi rfl rfl rfl (by first | exact Nat.le_of_ble_eq_true rfl | (simp at hb;first | omega | (dsimp only;omega) | (simp <;> omega)) | omega | (dsimp only;omega)) (by first | exact Nat.le_of_ble_eq_true rfl | (simp at hb;first | omega | (dsimp only;omega) | (simp <;> omega)) | omega | (dsimp only;omega))) rfl rfl rfl rfl rfl ?_
  | refine stg 25 (fun hb=>hop_add rfl rfl) rfl rfl rfl rfl rfl ?_
  | refine sth 25 (fun hb=>hop_add rfl rfl) rfl rfl rfl rfl rfl ?_
  first
  | refine stg 25 (fun hb=>hop_neq rfl rfl) rfl rfl rfl rfl rfl ?_
  | refine sth 25 (fun hb=>hop_neq rfl rfl) rfl rfl rfl rfl rfl ?_
  first
  | refine hq_p 32 (hstep_and _ _ rfl rfl rfl) rfl rfl rfl ?_
  | refine hq_p 32 (hstep_or _ _ rfl rfl rfl) rfl rfl rfl ?_
  | refine hq_p 32 (hstep_ite _ _ _ rfl rfl rfl) rfl rfl rfl ?_
  | refine hq_p 32 (hstep_pick _ _ _ _ rfl rfl rfl (fun _=>.refl _) (fun _=>.refl _)) rfl rfl rfl ?_
  refine nu ?_
  refine h10 _ ?_
  refine wc (fun hc1=>?_) (fun hc1=>?_)
  ·have hr1:=hc1;(try simp only [hcs,Int.reduceToNat] at hc1)
   have hst:=rowI_stop (tl:=(routeV L [])) (f:=s.f) (fr:=fr) (bad:=b) hlt (by simpa using hr1)
   refine srg fun N h11=>sa<|snl h11<|hw_ret<|hq_block_ret<|hq_then_ret<|hq_then_ret<|hq_block_ret<|hq_then_ret ?_
   refine hf_retR1 ok hX RetS.one rfl (rval_tmp rfl) [] rfl pre0 (()) (trivial) (by rfl) (by rfl) ((by rw [←hgo,hst];exact .fz _ _ (.imm _))) ?_
   exact ⟨⟨_,rfl,(okz_sh rfl rfl (by rw [←hgo,hst]) rfl rfl)⟩,⟨⟨_,rfl,(okz_rtN rfl rfl rfl rfl rfl)⟩,⟨⟨_,rfl,okz_mps⟩,trivial⟩⟩⟩
  have hr1:=hc1;(try simp only [hcs,Int.reduceToNat] at hc1)
  have hst:=rowI_go (tl:=(routeV L [])) (f:=s.f) (fr:=fr) (bad:=b) hlt (by simpa using hr1)
  refine hw_skip<|hq_block<|h7 _<|hw_region ?_
  first
  | refine hq_ 33 (hop_addi rfl rfl rfl (by first | exact Nat.le_of_ble_eq_true rfl | omega | (dsimp only;omega) | (simp <;> omega)) (by first | exact Nat.le_of_ble_eq_true rfl | omega | (dsimp only;omega) | (simp <;> omega))) rfl rfl pre0 rfl rfl ?_
  | refine hq_ 33 (hop_add rfl rfl) rfl rfl pre0 rfl rfl ?_
  refine sm<|hseq_nil ?_
  exact hL4 ((i+1,b||decide (((routeV L []) (s.f+i) 1).2≠0))) _ _ (by (try dsimp only);exact ⟨by omega,by rw [←hgo,hst]⟩) (by (try dsimp only);omega) (hsub_of rfl (Nat.le_refl _) tsa hsa)
 have hr0:=hc0;(try simp only [hcs,Int.reduceToNat] at hc0)
 have hst:=rowI_end (tl:=(routeV L [])) (f:=s.f) (fr:=fr) (bad:=b) (show (s.t - s.f).toNat≤i by omega)
 refine hw_exit ?_
 refine hq_then_exit<|hq_then_exit<|hq_block_here<|h2 _<|srg fun N h12=>sa<|snl h12<|hw_ret ?_
 refine hf_retR1 ok hX RetS.one rfl (rval_tmp rfl) [] rfl pre0 (()) (trivial) (by rfl) (by rfl) ((by rw [←hgo,hst];exact .fz _ _ (.imm _))) ?_
 exact ⟨⟨_,rfl,(okz_sh rfl rfl (by rw [←hgo,hst]) rfl rfl)⟩,⟨⟨_,rfl,(okz_rtN rfl rfl rfl rfl rfl)⟩,⟨⟨_,rfl,okz_mps⟩,trivial⟩⟩⟩
theorem kindN_h (gs:Nat) (bad:Bool) (g g2:Nat) (L:List (List Rg)) (hL:L.length≤100000) (hok:RtOk L []) (gx go:Nat) (s o:St) (e:Int) (hs:s.shape=true) (hof:-4398046511104≤o.f∧o.f≤4398046511104):HFunD Try.prog 51 [.pt 9201 gs 0 0,.pt 9301 gx 0 0,.pt 9302 go 0 0,intV e] [(9201,shO gs g bad),(9301,stO gx s),(9302,stO go o),(9101,rtO g (.os 9102 g2 0 L.length) (.imm (.map none))),(9102,mpsO g2 L)] (boolV (kindV (routeV L []) s o e bad).1) [(9201,shO gs g (kindV (routeV L []) s o e bad).2.2),(9301,stO gx s),(9302,stO go (kindV (routeV L []) s o e bad).2.1),(9101,rtO g (.os 9102 g2 0 L.length) (.imm (.map none))),(9102,mpsO g2 L)]:=by
 obtain ⟨q1,q2,q3,q4,q5⟩:=shape_in hs
 intro c
 refine hfun_of Try.func51 rfl kr _ _ _ _ rfl 101 rfl rfl (fun X ok hX=>?_)
 refine srg fun N h1=>sa<|snl h1<|hw_seq fun Nh2 h2=>srg fun N h3=>sm ?_
 first
 | refine hq_ 10 (hop_nilcheck_pt rfl) rfl rfl pre0 rfl rfl ?_
 | refine hq_ 10 (hop_nilcheck_fp rfl) rfl rfl pre0 rfl rfl ?_
 first
 | refine hq_ 11 (hop_fa fd_26_0 rfl) rfl rfl pre0 rfl rfl ?_
 | refine hq_ 11 (hop_fa_fp fd_26_0 rfl (by first | exact Nat.le_of_ble_eq_true rfl | omega | (dsimp only;omega) | (simp <;> omega))) rfl rfl pre0 rfl rfl ?_
 first
 | refine hq_ 12 (HOp.val (v':=intV s.k) (hol_load ty_3 rfl (by first | exact Nat.le_of_ble_eq_true rfl | omega | (dsimp only;omega) | (simp <;> omega)) (by first | exact Nat.le_of_ble_eq_true rfl | omega | (dsimp only;omega) | (simp <;> omega)) (fun h=>(by first | rfl | cases h))) (rfl)) rfl rfl (pre1 rfl) rfl rfl ?_
 | refine hq_ 12 (HOp.val (v':=intV s.k) (hop_load_fp ty_3 rfl (by first | exact Nat.le_of_ble_eq_true rfl | omega | (dsimp only;omega) | (simp <;> omega)) (fun h=>(by first | rfl | cases h))) (rfl)) rfl rfl pre0 rfl rfl ?_
 refine snl h3<|hw_block<|hw_seq fun Nh4 h4=>hw_block<|hw_seq fun Nh5 h5=>hw_block<|hw_block<|hw_seq fun Nh6 h6=>hw_block<|hw_seq fun Nh7 h7=>hw_seq fun Nh8 h8=>srg fun N h9=>?_
 refine s0 hqi ?_
 refine sa<|snl h9 ?_
 refine wc (fun hc0=>?_) (fun hc0=>?_)
 ·have hr0:=hc0;(try simp only [hcs,Int.reduceToNat] at hc0)
  have k2:s.k=2:=hc0;have hg:=gap_in hs k2;have hkv:kindV (routeV L []) s o e bad=(((decide (((routeV L []) s.gf (-1)).1.pos≥o.f)&&decide (((routeV L []) s.gf (-1)).1.pos≤((routeV L []) s.gt 1).1.pos))&&decide (((routeV L []) s.gt 1).1.pos≤e),o.mv o.f o.t ((routeV L []) s.gf (-1)).1.pos ((routeV L []) s.gt 1).1.pos,(bad||decide (((routeV L []) s.gf (-1)).2≠0))||decide (((routeV L []) s.gt 1).2≠0))):=if_pos k2
  refine hw_exit ?_
  refine hq_then_exit<|hq_then_exit<|hq_block_here<|h6 _<|hw_seq fun Nh10 h10=>hw_seq fun Nh11 h11=>hd_start ?_
  refine dm 1 ?_
  refine dm 2 ?_
  refine dm 3 ?_
  refine dm 4 ?_
  first
  | refine hd_q 25 (hop_nilcheck_pt rfl) rfl rfl pre0 rfl rfl (k':=5) rfl ?_
  | refine hd_q 25 (hop_nilcheck_fp rfl) rfl rfl pre0 rfl rfl (k':=5) rfl ?_
  first
  | refine hd_q 26 (hop_fa fd_26_3 rfl) rfl rfl pre0 rfl rfl (k':=6) rfl ?_
  | refine hd_q 26 (hop_fa_fp fd_26_3 rfl (by first | exact Nat.le_of_ble_eq_true rfl | omega | (dsimp only;omega) | (simp <;> omega))) rfl rfl pre0 rfl rfl (k':=6) rfl ?_
  first
  | refine hd_q 27 (HOp.val (v':=intV s.gf) (hol_load ty_3 rfl (by first | exact Nat.le_of_ble_eq_true rfl | omega | (dsimp only;omega) | (simp <;> omega)) (by first | exact Nat.le_of_ble_eq_true rfl | omega | (dsimp only;omega) | (simp <;> omega)) (fun h=>(by first | rfl | cases h))) (rfl)) rfl rfl (pre1 rfl) rfl rfl (k':=7) rfl ?_
  | refine hd_q 27 (HOp.val (v':=intV s.gf) (hop_load_fp ty_3 rfl (by first | exact Nat.le_of_ble_eq_true rfl | omega | (dsimp only;omega) | (simp <;> omega)) (fun h=>(by first | rfl | cases h))) (rfl)) rfl rfl pre0 rfl rfl (k':=7) rfl ?_
  refine hd_m 28 (hop_funD (xs:=[_,_,_]) (pre:=[(9201,_),(9101,_),(9102,_)]) (atN_h gs bad g g2 L hL hok s.gf (-1)) ((clocks_cons (id':=9201) (List.mem_cons_self ..) rfl (fun id o h=>⟨_,List.mem_cons_of_mem _ (hget_mem h),rfl⟩))) ⟨rfl,⟨rfl,⟨rfl,trivial⟩⟩⟩) rfl rfl (preC rfl (preC rfl (preC rfl pre0))) rfl rfl (k':=8) rfl ?_
  refine d0 9 (hop_field (T:=100) (fo:=0) kr rfl omx) ?_
  refine dm 10 ?_
  refine dm 11 ?_
  first
  | refine hd_q 32 (hop_nilcheck_pt rfl) rfl rfl pre0 rfl rfl (k':=12) rfl ?_
  | refine hd_q 32 (hop_nilcheck_fp rfl) rfl rfl pre0 rfl rfl (k':=12) rfl ?_
  first
  | refine hd_q 33 (hop_fa fd_26_4 rfl) rfl rfl pre0 rfl rfl (k':=13) rfl ?_
  | refine hd_q 33 (hop_fa_fp fd_26_4 rfl (by first | exact Nat.le_of_ble_eq_true rfl | omega | (dsimp only;omega) | (simp <;> omega))) rfl rfl pre0 rfl rfl (k':=13) rfl ?_
  first
  | refine hd_q 34 (HOp.val (v':=intV s.gt) (hol_load ty_3 rfl (by first | exact Nat.le_of_ble_eq_true rfl | omega | (dsimp only;omega) | (simp <;> omega)) (by first | exact Nat.le_of_ble_eq_true rfl | omega | (dsimp only;omega) | (simp <;> omega)) (fun h=>(by first | rfl | cases h))) (rfl)) rfl rfl (pre1 rfl) rfl rfl (k':=14) rfl ?_
  | refine hd_q 34 (HOp.val (v':=intV s.gt) (hop_load_fp ty_3 rfl (by first | exact Nat.le_of_ble_eq_true rfl | omega | (dsimp only;omega) | (simp <;> omega)) (fun h=>(by first | rfl | cases h))) (rfl)) rfl rfl pre0 rfl rfl (k':=14) rfl ?_
  refine hd_m 35 (hop_funD (xs:=[_,_,_]) (pre:=[(9201,_),(9101,_),(9102,_)]) (atN_h gs (bad||decide (((routeV L []) s.gf (-1)).2≠0)) g g2 L hL hok s.gt 1) ((clocks_cons (id':=9201) (List.mem_cons_self ..) rfl (fun id o h=>⟨_,List.mem_cons_of_mem _ (hget_mem h),rfl⟩))) ⟨rfl,⟨rfl,⟨rfl,trivial⟩⟩⟩) rfl rfl (preC rfl (preC rfl (preC rfl pre0))) rfl rfl (k':=15) rfl ?_
  refine d0 16 (hop_field (T:=100) (fo:=0) kr rfl omx) ?_
  first
  | refine hd_q 37 (hop_nilcheck_pt rfl) rfl rfl pre0 rfl rfl (k':=17) rfl ?_
  | refine hd_q 37 (hop_nilcheck_fp rfl) rfl rfl pre0 rfl rfl (k':=17) rfl ?_
  first
  | refine hd_q 38 (hop_fa fd_26_3 rfl) rfl rfl pre0 rfl rfl (k':=18) rfl ?_
  | refine hd_q 38 (hop_fa_fp fd_26_3 rfl (by first | exact Nat.le_of_ble_eq_true rfl | omega | (dsimp only;omega) | (simp <;> omega))) rfl rfl pre0 rfl rfl (k':=18) rfl ?_
  first
  | refine hd_s1 (hol_storeW ty_3 rfl rfl rfl rfl) rfl rfl (pre1 rfl) (k':=19) rfl ?_
  | refine hd_s1 (hol_store ty_3 rfl rfl rfl rfl (by first | exact Nat.le_of_ble_eq_true rfl | omega | (dsimp only;omega) | (simp <;> omega)) (by first | exact Nat.le_of_ble_eq_true rfl | omega | (dsimp only;omega) | (simp <;> omega)) (by first | exact Nat.le_of_ble_eq_true rfl | omega | (dsimp only;omega) | (simp <;> omega))) rfl rfl (pre1 rfl) (k':=19) rfl ?_
  first
  | refine hd_q 39 (hop_nilcheck_pt rfl) rfl rfl pre0 rfl rfl (k':=20) rfl ?_
  | refine hd_q 39 (hop_nilcheck_fp rfl) rfl rfl pre0 rfl rfl (k':=20) rfl ?_
  first
  | refine hd_q 40 (hop_fa fd_26_4 rfl) rfl rfl pre0 rfl rfl (k':=21) rfl ?_
  | refine hd_q 40 (hop_fa_fp fd_26_4 rfl (by first | exact Nat.le_of_ble_eq_true rfl | omega | (dsimp only;omega) | (simp <;> omega))) rfl rfl pre0 rfl rfl (k':=21) rfl ?_
  first
  | refine hd_s1 (hol_storeW ty_3 rfl rfl rfl rfl) rfl rfl (pre1 rfl) (k':=22) rfl ?_
  | refine hd_s1 (hol_store ty_3 rfl rfl rfl rfl (by first | exact Nat.le_of_ble_eq_true rfl | omega | (dsimp only;omega) | (simp <;> omega)) (by first | exact Nat.le_of_ble_eq_true rfl | omega | (dsimp only;omega) | (simp <;> omega)) (by first | exact Nat.le_of_ble_eq_true rfl | omega | (dsimp only;omega) | (simp <;> omega))) rfl rfl (pre1 rfl) (k':=22) rfl ?_
  refine hd_nil kr kr (c':=c+22) rfl ?_
  refine h11 _<|hw_seq fun Nh12 h12=>hd_start ?_
  refine dm 1 ?_
  first
  | refine hd_q 42 (hop_nilcheck_pt rfl) rfl rfl pre0 rfl rfl (k':=2) rfl ?_
  | refine hd_q 42 (hop_nilcheck_fp rfl) rfl rfl pre0 rfl rfl (k':=2) rfl ?_
  first
  | refine hd_q 43 (hop_fa fd_26_3 rfl) rfl rfl pre0 rfl rfl (k':=3) rfl ?_
  | refine hd_q 43 (hop_fa_fp fd_26_3 rfl (by first | exact Nat.le_of_ble_eq_true rfl | omega | (dsimp only;omega) | (simp <;> omega))) rfl rfl pre0 rfl rfl (k':=3) rfl ?_
  first
  | refine hd_q 44 (hol_load ty_3 rfl (by first | exact Nat.le_of_ble_eq_true rfl | omega | (dsimp only;omega) | (simp <;> omega)) (by first | exact Nat.le_of_ble_eq_true rfl | omega | (dsimp only;omega) | (simp <;> omega)) (fun h=>(by first | rfl | cases h))) rfl rfl (pre1 rfl) rfl rfl (k':=4) rfl ?_
  | refine hd_q 44 (hop_load_fp ty_3 rfl (by first | exact Nat.le_of_ble_eq_true rfl | omega | (dsimp only;omega) | (simp <;> omega)) (fun h=>(by first | rfl | cases h))) rfl rfl pre0 rfl rfl (k':=4) rfl ?_
  refine dm 5 ?_
  first
  | refine hd_q 46 (hop_nilcheck_pt rfl) rfl rfl pre0 rfl rfl (k':=6) rfl ?_
  | refine hd_q 46 (hop_nilcheck_fp rfl) rfl rfl pre0 rfl rfl (k':=6) rfl ?_
  first
  | refine hd_q 47 (hop_fa fd_26_1 rfl) rfl rfl pre0 rfl rfl (k':=7) rfl ?_
  | refine hd_q 47 (hop_fa_fp fd_26_1 rfl (by first | exact Nat.le_of_ble_eq_true rfl | omega | (dsimp only;omega) | (simp <;> omega))) rfl rfl pre0 rfl rfl (k':=7) rfl ?_
  first
  | refine hd_q 48 (hol_load ty_3 rfl (by first | exact Nat.le_of_ble_eq_true rfl | omega | (dsimp only;omega) | (simp <;> omega)) (by first | exact Nat.le_of_ble_eq_true rfl | omega | (dsimp only;omega) | (simp <;> omega)) (fun h=>(by first | rfl | cases h))) rfl rfl (pre1 rfl) rfl rfl (k':=8) rfl ?_
  | refine hd_q 48 (hop_load_fp ty_3 rfl (by first | exact Nat.le_of_ble_eq_true rfl | omega | (dsimp only;omega) | (simp <;> omega)) (fun h=>(by first | rfl | cases h))) rfl rfl pre0 rfl rfl (k':=8) rfl ?_
  refine d0 9 (hop_geq rfl rfl) ?_
  refine dm 10 ?_
  refine hd_g 51 9 50 true _ (fun hb=>hop_move rfl) rfl rfl rfl rfl pre0 rfl rfl rfl (k':=11) rfl ?_
  first
  | refine hd_g 52 9 50 true _ (fun hb=>hop_nilcheck_pt rfl) rfl rfl rfl rfl pre0 rfl rfl rfl (k':=12) rfl ?_
  | refine hd_g 52 9 50 true _ (fun hb=>hop_nilcheck_fp rfl) rfl rfl rfl rfl pre0 rfl rfl rfl (k':=12) rfl ?_
  first
  | refine hd_g 53 9 50 true _ (fun hb=>hop_fa fd_26_3 rfl) rfl rfl rfl rfl pre0 rfl rfl rfl (k':=13) rfl ?_
  | refine hd_g 53 9 50 true _ (fun hb=>hop_fa_fp fd_26_3 rfl (by first | exact Nat.le_of_ble_eq_true rfl | (simp at hb;first | omega | (dsimp only;omega) | (simp <;> omega)) | omega | (dsimp only;omega))) rfl rfl rfl rfl pre0 rfl rfl rfl (k':=13) rfl ?_
  first
  | refine hd_g 54 9 50 true _ (fun hb=>hol_load ty_3 rfl (by first | exact Nat.le_of_ble_eq_true rfl | (simp at hb;first | omega | (dsimp only;omega) | (simp <;> omega)) | omega | (dsimp only;omega)) (by first | exact Nat.le_of_ble_eq_true rfl | (simp at hb;first | omega | (dsimp only;omega) | (simp <;> omega)) | omega | (dsimp only;omega)) (fun h=>(by first | rfl | cases h))) rfl rfl rfl rfl (pre1 rfl) rfl rfl rfl (k':=14) rfl ?_
  | refine hd_g 54 9 50 true _ (fun hb=>hop_load_fp ty_3 rfl (by first | exact Nat.le_of_ble_eq_true rfl | (simp at hb;first | omega | (dsimp only;omega) | (simp <;> omega)) | omega | (dsimp only;omega)) (fun h=>(by first | rfl | cases h))) rfl rfl rfl rfl pre0 rfl rfl rfl (k':=14) rfl ?_
  refine hd_g 55 9 50 true _ (fun hb=>hop_move rfl) rfl rfl rfl rfl pre0 rfl rfl rfl (k':=15) rfl ?_
  first
  | refine hd_g 56 9 50 true _ (fun hb=>hop_nilcheck_pt rfl) rfl rfl rfl rfl pre0 rfl rfl rfl (k':=16) rfl ?_
  | refine hd_g 56 9 50 true _ (fun hb=>hop_nilcheck_fp rfl) rfl rfl rfl rfl pre0 rfl rfl rfl (k':=16) rfl ?_
  first
  | refine hd_g 57 9 50 true _ (fun hb=>hop_fa fd_26_4 rfl) rfl rfl rfl rfl pre0 rfl rfl rfl (k':=17) rfl ?_
  | refine hd_g 57 9 50 true _ (fun hb=>hop_fa_fp fd_26_4 rfl (by first | exact Nat.le_of_ble_eq_true rfl | (simp at hb;first | omega | (dsimp only;omega) | (simp <;> omega)) | omega | (dsimp only;omega))) rfl rfl rfl rfl pre0 rfl rfl rfl (k':=17) rfl ?_
  first
  | refine hd_g 58 9 50 true _ (fun hb=>hol_load ty_3 rfl (by first | exact Nat.le_of_ble_eq_true rfl | (simp at hb;first | omega | (dsimp only;omega) | (simp <;> omega)) | omega | (dsimp only;omega)) (by first | exact Nat.le_of_ble_eq_true rfl | (simp at hb;first | omega | (dsimp only;omega) | (simp <;> omega)) | omega | (dsimp only;omega)) (fun h=>(by first | rfl | cases h))) rfl rfl rfl rfl (pre1 rfl) rfl rfl rfl (k':=18) rfl ?_
  | refine hd_g 58 9 50 true _ (fun hb=>hop_load_fp ty_3 rfl (by first | exact Nat.le_of_ble_eq_true rfl | (simp at hb;first | omega | (dsimp only;omega) | (simp <;> omega)) | omega | (dsimp only;omega)) (fun h=>(by first | rfl | cases h))) rfl rfl rfl rfl pre0 rfl rfl rfl (k':=18) rfl ?_
  refine hd_g 59 9 50 true _ (fun hb=>hop_leq rfl rfl) rfl rfl rfl rfl pre0 rfl rfl rfl (k':=19) rfl ?_
  first
  | refine hd_p 60 (hstep_and _ _ rfl rfl rfl) rfl rfl rfl (k':=20) rfl ?_
  | refine hd_p 60 (hstep_or _ _ rfl rfl rfl) rfl rfl rfl (k':=20) rfl ?_
  | refine hd_p 60 (hstep_pick _ _ _ _ rfl rfl rfl (fun _=>.refl _) (fun _=>.refl _)) rfl rfl rfl (k':=20) rfl ?_
  refine dm 21 ?_
  refine hd_g 62 20 61 true _ (fun hb=>hop_move rfl) rfl rfl rfl rfl pre0 rfl rfl rfl (k':=22) rfl ?_
  first
  | refine hd_g 63 20 61 true _ (fun hb=>hop_nilcheck_pt rfl) rfl rfl rfl rfl pre0 rfl rfl rfl (k':=23) rfl ?_
  | refine hd_g 63 20 61 true _ (fun hb=>hop_nilcheck_fp rfl) rfl rfl rfl rfl pre0 rfl rfl rfl (k':=23) rfl ?_
  first
  | refine hd_g 64 20 61 true _ (fun hb=>hop_fa fd_26_4 rfl) rfl rfl rfl rfl pre0 rfl rfl rfl (k':=24) rfl ?_
  | refine hd_g 64 20 61 true _ (fun hb=>hop_fa_fp fd_26_4 rfl (by first | exact Nat.le_of_ble_eq_true rfl | (simp at hb;first | omega | (dsimp only;omega) | (simp <;> omega)) | omega | (dsimp only;omega))) rfl rfl rfl rfl pre0 rfl rfl rfl (k':=24) rfl ?_
  first
  | refine hd_g 65 20 61 true _ (fun hb=>hol_load ty_3 rfl (by first | exact Nat.le_of_ble_eq_true rfl | (simp at hb;first | omega | (dsimp only;omega) | (simp <;> omega)) | omega | (dsimp only;omega)) (by first | exact Nat.le_of_ble_eq_true rfl | (simp at hb;first | omega | (dsimp only;omega) | (simp <;> omega)) | omega | (dsimp only;omega)) (fun h=>(by first | rfl | cases h))) rfl rfl rfl rfl (pre1 rfl) rfl rfl rfl (k':=25) rfl ?_
  | refine hd_g 65 20 61 true _ (fun hb=>hop_load_fp ty_3 rfl (by first | exact Nat.le_of_ble_eq_true rfl | (simp at hb;first | omega | (dsimp only;omega) | (simp <;> omega)) | omega | (dsimp only;omega)) (fun h=>(by first | rfl | cases h))) rfl rfl rfl rfl pre0 rfl rfl rfl (k':=25) rfl ?_
  refine hd_g 66 20 61 true _ (fun hb=>hop_move rfl) rfl rfl rfl rfl pre0 rfl rfl rfl (k':=26) rfl ?_
  refine hd_g 67 20 61 true _ (fun hb=>hop_leq rfl rfl) rfl rfl rfl rfl pre0 rfl rfl rfl (k':=27) rfl ?_
  first
  | refine hd_p 68 (hstep_and _ _ rfl rfl rfl) rfl rfl rfl (k':=28) rfl ?_
  | refine hd_p 68 (hstep_or _ _ rfl rfl rfl) rfl rfl rfl (k':=28) rfl ?_
  | refine hd_p 68 (hstep_pick _ _ _ _ rfl rfl rfl (fun _=>.refl _) (fun _=>.refl _)) rfl rfl rfl (k':=28) rfl ?_
  refine d0 29 (hop_assign rfl) ?_
  refine hd_nilU kr kr (by rfl) (by simp only [dropUn,slots];exact rfl) (c':=c+51) rfl ?_
  refine h12 _<|hw_ret<|hq_then_ret<|hq_block_ret<|hq_block_ret<|hq_then_ret<|hq_block_ret<|hq_then_ret<|hq_block_ret<|hq_then_ret ?_
  refine hf_retR1 ok hX RetS.one rfl (rval_tmp rfl) [] rfl pre0 (()) (trivial) (by rfl) (by rfl) ((by rw [hkv];exact .fz _ _ (.imm _))) ?_
  exact ⟨⟨_,rfl,(okz_sh rfl rfl (by rw [hkv]) rfl rfl)⟩,⟨⟨_,rfl,(okz_st (fz_agg10 fzc fzc fzc fzc fzc fzc fzc fzc (by exact fz_toks s.sl) (by exact fz_mkss s.sets)))⟩,⟨⟨_,rfl,(by rw [hkv];exact okz_st (fz_agg10 fzc fzc fzc fzc fzc fzc fzc fzc (by exact fz_toks o.sl) (by exact fz_mkss o.sets)))⟩,⟨⟨_,rfl,(okz_rtN rfl rfl rfl rfl rfl)⟩,⟨⟨_,rfl,okz_mps⟩,trivial⟩⟩⟩⟩⟩
 have hr0:=hc0;(try simp only [hcs,Int.reduceToNat] at hc0)
 refine hw_skip<|h8 _<|hw_seq fun Nh13 h13=>srg fun N h14=>?_
 refine s0 hqi ?_
 refine sa<|snl h14 ?_
 refine wc (fun hc1=>?_) (fun hc1=>?_)
 ·have hr1:=hc1;(try simp only [hcs,Int.reduceToNat] at hc1)
  have hkv:kindV (routeV L []) s o e bad=(decide (e > o.f),o,bad):=(by unfold kindV;rw [if_neg om,if_pos om])
  refine hw_exit ?_
  refine hq_then_exit<|hq_then_exit ?_
  refine hq_block_on rfl ?_
  refine hq_then_exit<|hq_block_here<|hq_block<|h5 _<|hw_seq fun Nh15 h15=>srg fun N h16=>sm<|sm ?_
  first
  | refine hq_ 71 (hop_nilcheck_pt rfl) rfl rfl pre0 rfl rfl ?_
  | refine hq_ 71 (hop_nilcheck_fp rfl) rfl rfl pre0 rfl rfl ?_
  first
  | refine hq_ 72 (hop_fa fd_26_1 rfl) rfl rfl pre0 rfl rfl ?_
  | refine hq_ 72 (hop_fa_fp fd_26_1 rfl (by first | exact Nat.le_of_ble_eq_true rfl | omega | (dsimp only;omega) | (simp <;> omega))) rfl rfl pre0 rfl rfl ?_
  first
  | refine hq_ 73 (HOp.val (v':=intV o.f) (hol_load ty_3 rfl (by first | exact Nat.le_of_ble_eq_true rfl | omega | (dsimp only;omega) | (simp <;> omega)) (by first | exact Nat.le_of_ble_eq_true rfl | omega | (dsimp only;omega) | (simp <;> omega)) (fun h=>(by first | rfl | cases h))) (rfl)) rfl rfl (pre1 rfl) rfl rfl ?_
  | refine hq_ 73 (HOp.val (v':=intV o.f) (hop_load_fp ty_3 rfl (by first | exact Nat.le_of_ble_eq_true rfl | omega | (dsimp only;omega) | (simp <;> omega)) (fun h=>(by first | rfl | cases h))) (rfl)) rfl rfl pre0 rfl rfl ?_
  refine s0 (hop_gtr rfl rfl) ?_
  refine sa<|snl h16<|hw_ret<|hq_then_ret<|hq_block_ret<|hq_then_ret<|hq_block_ret<|hq_then_ret ?_
  refine hf_retR1 ok hX RetS.one rfl (rval_tmp rfl) [] rfl pre0 (()) (trivial) (by rfl) (by rfl) ((by rw [hkv];exact .fz _ _ (.imm _))) ?_
  exact ⟨⟨_,rfl,(okz_sh rfl rfl (by rw [hkv]) rfl rfl)⟩,⟨⟨_,rfl,(okz_st (fz_agg10 fzc fzc fzc fzc fzc fzc fzc fzc (by exact fz_toks s.sl) (by exact fz_mkss s.sets)))⟩,⟨⟨_,rfl,(by rw [hkv];exact okz_st (fz_agg10 fzc fzc fzc fzc fzc fzc fzc fzc (by exact fz_toks o.sl) (by exact fz_mkss o.sets)))⟩,⟨⟨_,rfl,(okz_rtN rfl rfl rfl rfl rfl)⟩,⟨⟨_,rfl,okz_mps⟩,trivial⟩⟩⟩⟩⟩
 have hr1:=hc1;(try simp only [hcs,Int.reduceToNat] at hc1)
 refine hw_skip<|h13 _<|hw_seq fun Nh17 h17=>srg fun N h18=>?_
 refine s0 hqi ?_
 refine sa<|snl h18 ?_
 refine wc (fun hc2=>?_) (fun hc2=>?_)
 ·have hr2:=hc2;(try simp only [hcs,Int.reduceToNat] at hc2)
  have hkv:kindV (routeV L []) s o e bad=(decide (e > o.f),o,bad):=(by unfold kindV;rw [if_neg om,if_pos om])
  refine hw_exit ?_
  refine hq_then_exit<|hq_then_exit ?_
  refine hq_block_on rfl ?_
  refine hq_then_exit ?_
  refine hq_block_on rfl ?_
  refine hq_block_here<|h5 _<|hw_seq fun Nh19 h19=>srg fun N h20=>sm<|sm ?_
  first
  | refine hq_ 71 (hop_nilcheck_pt rfl) rfl rfl pre0 rfl rfl ?_
  | refine hq_ 71 (hop_nilcheck_fp rfl) rfl rfl pre0 rfl rfl ?_
  first
  | refine hq_ 72 (hop_fa fd_26_1 rfl) rfl rfl pre0 rfl rfl ?_
  | refine hq_ 72 (hop_fa_fp fd_26_1 rfl (by first | exact Nat.le_of_ble_eq_true rfl | omega | (dsimp only;omega) | (simp <;> omega))) rfl rfl pre0 rfl rfl ?_
  first
  | refine hq_ 73 (HOp.val (v':=intV o.f) (hol_load ty_3 rfl (by first | exact Nat.le_of_ble_eq_true rfl | omega | (dsimp only;omega) | (simp <;> omega)) (by first | exact Nat.le_of_ble_eq_true rfl | omega | (dsimp only;omega) | (simp <;> omega)) (fun h=>(by first | rfl | cases h))) (rfl)) rfl rfl (pre1 rfl) rfl rfl ?_
  | refine hq_ 73 (HOp.val (v':=intV o.f) (hop_load_fp ty_3 rfl (by first | exact Nat.le_of_ble_eq_true rfl | omega | (dsimp only;omega) | (simp <;> omega)) (fun h=>(by first | rfl | cases h))) (rfl)) rfl rfl pre0 rfl rfl ?_
  refine s0 (hop_gtr rfl rfl) ?_
  refine sa<|snl h20<|hw_ret<|hq_then_ret<|hq_block_ret<|hq_then_ret<|hq_block_ret<|hq_then_ret ?_
  refine hf_retR1 ok hX RetS.one rfl (rval_tmp rfl) [] rfl pre0 (()) (trivial) (by rfl) (by rfl) ((by rw [hkv];exact .fz _ _ (.imm _))) ?_
  exact ⟨⟨_,rfl,(okz_sh rfl rfl (by rw [hkv]) rfl rfl)⟩,⟨⟨_,rfl,(okz_st (fz_agg10 fzc fzc fzc fzc fzc fzc fzc fzc (by exact fz_toks s.sl) (by exact fz_mkss s.sets)))⟩,⟨⟨_,rfl,(by rw [hkv];exact okz_st (fz_agg10 fzc fzc fzc fzc fzc fzc fzc fzc (by exact fz_toks o.sl) (by exact fz_mkss o.sets)))⟩,⟨⟨_,rfl,(okz_rtN rfl rfl rfl rfl rfl)⟩,⟨⟨_,rfl,okz_mps⟩,trivial⟩⟩⟩⟩⟩
 have hr2:=hc2;(try simp only [hcs,Int.reduceToNat] at hc2)
 refine hw_skip<|h17 _<|srg fun N h21=>?_
 refine s0 hqi ?_
 refine sa<|snl h21 ?_
 refine wc (fun hc3=>?_) (fun hc3=>?_)
 ·have hr3:=hc3;(try simp only [hcs,Int.reduceToNat] at hc3)
  have k5:s.k=5:=hc3;have hkv:kindV (routeV L []) s o e bad=((rowI (routeV L []) s.f o.f (s.t - s.f).toNat 0 bad).1,o.mv o.f (o.f+s.t - s.f) o.gf o.gt,(rowI (routeV L []) s.f o.f (s.t - s.f).toNat 0 bad).2):=(by unfold kindV;rw [if_neg om,if_neg om,if_pos k5])
  refine hw_exit ?_
  refine hq_then_exit ?_
  refine hq_block_on rfl ?_
  refine hq_then_exit ?_
  refine hq_block_on rfl ?_
  refine hq_block_on rfl ?_
  refine hq_then_exit<|hq_block_here<|h4 _<|hw_seq fun Nh22 h22=>hw_seq fun Nh23 h23=>hd_start ?_
  refine dm 1 ?_
  refine dm 2 ?_
  first
  | refine hd_q 77 (hop_nilcheck_pt rfl) rfl rfl pre0 rfl rfl (k':=3) rfl ?_
  | refine hd_q 77 (hop_nilcheck_fp rfl) rfl rfl pre0 rfl rfl (k':=3) rfl ?_
  first
  | refine hd_q 78 (hop_fa fd_26_1 rfl) rfl rfl pre0 rfl rfl (k':=4) rfl ?_
  | refine hd_q 78 (hop_fa_fp fd_26_1 rfl (by first | exact Nat.le_of_ble_eq_true rfl | omega | (dsimp only;omega) | (simp <;> omega))) rfl rfl pre0 rfl rfl (k':=4) rfl ?_
  first
  | refine hd_q 79 (HOp.val (v':=intV o.f) (hol_load ty_3 rfl (by first | exact Nat.le_of_ble_eq_true rfl | omega | (dsimp only;omega) | (simp <;> omega)) (by first | exact Nat.le_of_ble_eq_true rfl | omega | (dsimp only;omega) | (simp <;> omega)) (fun h=>(by first | rfl | cases h))) (rfl)) rfl rfl (pre1 rfl) rfl rfl (k':=5) rfl ?_
  | refine hd_q 79 (HOp.val (v':=intV o.f) (hop_load_fp ty_3 rfl (by first | exact Nat.le_of_ble_eq_true rfl | omega | (dsimp only;omega) | (simp <;> omega)) (fun h=>(by first | rfl | cases h))) (rfl)) rfl rfl pre0 rfl rfl (k':=5) rfl ?_
  refine dm 6 ?_
  first
  | refine hd_q 81 (hop_nilcheck_pt rfl) rfl rfl pre0 rfl rfl (k':=7) rfl ?_
  | refine hd_q 81 (hop_nilcheck_fp rfl) rfl rfl pre0 rfl rfl (k':=7) rfl ?_
  first
  | refine hd_q 82 (hop_fa fd_26_2 rfl) rfl rfl pre0 rfl rfl (k':=8) rfl ?_
  | refine hd_q 82 (hop_fa_fp fd_26_2 rfl (by first | exact Nat.le_of_ble_eq_true rfl | omega | (dsimp only;omega) | (simp <;> omega))) rfl rfl pre0 rfl rfl (k':=8) rfl ?_
  first
  | refine hd_q 83 (HOp.val (v':=intV s.t) (hol_load ty_3 rfl (by first | exact Nat.le_of_ble_eq_true rfl | omega | (dsimp only;omega) | (simp <;> omega)) (by first | exact Nat.le_of_ble_eq_true rfl | omega | (dsimp only;omega) | (simp <;> omega)) (fun h=>(by first | rfl | cases h))) (rfl)) rfl rfl (pre1 rfl) rfl rfl (k':=9) rfl ?_
  | refine hd_q 83 (HOp.val (v':=intV s.t) (hop_load_fp ty_3 rfl (by first | exact Nat.le_of_ble_eq_true rfl | omega | (dsimp only;omega) | (simp <;> omega)) (fun h=>(by first | rfl | cases h))) (rfl)) rfl rfl pre0 rfl rfl (k':=9) rfl ?_
  first
  | refine hd_q 84 (hop_addi rfl rfl rfl (by first | exact Nat.le_of_ble_eq_true rfl | omega | (dsimp only;omega) | (simp <;> omega)) (by first | exact Nat.le_of_ble_eq_true rfl | omega | (dsimp only;omega) | (simp <;> omega))) rfl rfl pre0 rfl rfl (k':=10) rfl ?_
  | refine hd_q 84 (hop_add rfl rfl) rfl rfl pre0 rfl rfl (k':=10) rfl ?_
  refine dm 11 ?_
  first
  | refine hd_q 86 (hop_nilcheck_pt rfl) rfl rfl pre0 rfl rfl (k':=12) rfl ?_
  | refine hd_q 86 (hop_nilcheck_fp rfl) rfl rfl pre0 rfl rfl (k':=12) rfl ?_
  first
  | refine hd_q 87 (hop_fa fd_26_1 rfl) rfl rfl pre0 rfl rfl (k':=13) rfl ?_
  | refine hd_q 87 (hop_fa_fp fd_26_1 rfl (by first | exact Nat.le_of_ble_eq_true rfl | omega | (dsimp only;omega) | (simp <;> omega))) rfl rfl pre0 rfl rfl (k':=13) rfl ?_
  first
  | refine hd_q 88 (HOp.val (v':=intV s.f) (hol_load ty_3 rfl (by first | exact Nat.le_of_ble_eq_true rfl | omega | (dsimp only;omega) | (simp <;> omega)) (by first | exact Nat.le_of_ble_eq_true rfl | omega | (dsimp only;omega) | (simp <;> omega)) (fun h=>(by first | rfl | cases h))) (rfl)) rfl rfl (pre1 rfl) rfl rfl (k':=14) rfl ?_
  | refine hd_q 88 (HOp.val (v':=intV s.f) (hop_load_fp ty_3 rfl (by first | exact Nat.le_of_ble_eq_true rfl | omega | (dsimp only;omega) | (simp <;> omega)) (fun h=>(by first | rfl | cases h))) (rfl)) rfl rfl pre0 rfl rfl (k':=14) rfl ?_
  first
  | refine hd_q 89 (hop_subi rfl rfl rfl (by first | exact Nat.le_of_ble_eq_true rfl | omega | (dsimp only;omega) | (simp <;> omega)) (by first | exact Nat.le_of_ble_eq_true rfl | omega | (dsimp only;omega) | (simp <;> omega))) rfl rfl pre0 rfl rfl (k':=15) rfl ?_
  | refine hd_q 89 (hop_sub rfl rfl) rfl rfl pre0 rfl rfl (k':=15) rfl ?_
  first
  | refine hd_q 90 (hop_nilcheck_pt rfl) rfl rfl pre0 rfl rfl (k':=16) rfl ?_
  | refine hd_q 90 (hop_nilcheck_fp rfl) rfl rfl pre0 rfl rfl (k':=16) rfl ?_
  first
  | refine hd_q 91 (hop_fa fd_26_2 rfl) rfl rfl pre0 rfl rfl (k':=17) rfl ?_
  | refine hd_q 91 (hop_fa_fp fd_26_2 rfl (by first | exact Nat.le_of_ble_eq_true rfl | omega | (dsimp only;omega) | (simp <;> omega))) rfl rfl pre0 rfl rfl (k':=17) rfl ?_
  first
  | refine hd_s1 (hol_storeW ty_3 rfl rfl rfl rfl) rfl rfl (pre1 rfl) (k':=18) rfl ?_
  | refine hd_s1 (hol_store ty_3 rfl rfl rfl rfl (by first | exact Nat.le_of_ble_eq_true rfl | omega | (dsimp only;omega) | (simp <;> omega)) (by first | exact Nat.le_of_ble_eq_true rfl | omega | (dsimp only;omega) | (simp <;> omega)) (by first | exact Nat.le_of_ble_eq_true rfl | omega | (dsimp only;omega) | (simp <;> omega))) rfl rfl (pre1 rfl) (k':=18) rfl ?_
  refine hd_nil kr kr (c':=c+18) rfl ?_
  refine h23 _<|hw_seq fun Nh24 h24=>hd_start ?_
  refine dm 1 ?_
  refine dm 2 ?_
  first
  | refine hd_q 94 (hop_nilcheck_pt rfl) rfl rfl pre0 rfl rfl (k':=3) rfl ?_
  | refine hd_q 94 (hop_nilcheck_fp rfl) rfl rfl pre0 rfl rfl (k':=3) rfl ?_
  first
  | refine hd_q 95 (hol_load ty_26 rfl (by first | exact Nat.le_of_ble_eq_true rfl | omega | (dsimp only;omega) | (simp <;> omega)) (by first | exact Nat.le_of_ble_eq_true rfl | omega | (dsimp only;omega) | (simp <;> omega)) (fun h=>(by first | rfl | cases h))) rfl rfl (pre1 rfl) rfl rfl (k':=4) rfl ?_
  | refine hd_q 95 (hop_load_fp ty_26 rfl (by first | exact Nat.le_of_ble_eq_true rfl | omega | (dsimp only;omega) | (simp <;> omega)) (fun h=>(by first | rfl | cases h))) rfl rfl pre0 rfl rfl (k':=4) rfl ?_
  refine dm 5 ?_
  first
  | refine hd_q 97 (hop_nilcheck_pt rfl) rfl rfl pre0 rfl rfl (k':=6) rfl ?_
  | refine hd_q 97 (hop_nilcheck_fp rfl) rfl rfl pre0 rfl rfl (k':=6) rfl ?_
  first
  | refine hd_q 98 (hop_fa fd_26_1 rfl) rfl rfl pre0 rfl rfl (k':=7) rfl ?_
  | refine hd_q 98 (hop_fa_fp fd_26_1 rfl (by first | exact Nat.le_of_ble_eq_true rfl | omega | (dsimp only;omega) | (simp <;> omega))) rfl rfl pre0 rfl rfl (k':=7) rfl ?_
  first
  | refine hd_q 99 (HOp.val (v':=intV o.f) (hol_load ty_3 rfl (by first | exact Nat.le_of_ble_eq_true rfl | omega | (dsimp only;omega) | (simp <;> omega)) (by first | exact Nat.le_of_ble_eq_true rfl | omega | (dsimp only;omega) | (simp <;> omega)) (fun h=>(by first | rfl | cases h))) (rfl)) rfl rfl (pre1 rfl) rfl rfl (k':=8) rfl ?_
  | refine hd_q 99 (HOp.val (v':=intV o.f) (hop_load_fp ty_3 rfl (by first | exact Nat.le_of_ble_eq_true rfl | omega | (dsimp only;omega) | (simp <;> omega)) (fun h=>(by first | rfl | cases h))) (rfl)) rfl rfl pre0 rfl rfl (k':=8) rfl ?_
  refine hd_m 100 (hop_funD (xs:=[_,_,_]) (pre:=[(9201,_),(9101,_),(9102,_)]) (rowN_h gs bad g g2 L hL hok s o.f om hof) ((clocks_cons (id':=9201) (List.mem_cons_self ..) rfl (fun id o h=>⟨_,List.mem_cons_of_mem _ (hget_mem h),rfl⟩))) ⟨rfl,⟨rfl,⟨rfl,trivial⟩⟩⟩) rfl rfl (preC rfl (preC rfl (preC rfl pre0))) rfl rfl (k':=9) rfl ?_
  refine d0 10 (hop_assign rfl) ?_
  refine hd_nil kr kr (c':=c+28) rfl ?_
  refine h24 _<|hw_ret<|hq_then_ret<|hq_block_ret<|hq_then_ret ?_
  refine hf_retR1 ok hX RetS.one rfl (rval_tmp rfl) [] rfl pre0 (()) (trivial) (by rfl) (by rfl) ((by rw [hkv];exact .fz _ _ (.imm _))) ?_
  exact ⟨⟨_,rfl,(okz_sh rfl rfl (by rw [hkv]) rfl rfl)⟩,⟨⟨_,rfl,(okz_st (fz_agg10 fzc fzc fzc fzc fzc fzc fzc fzc (by exact fz_toks s.sl) (by exact fz_mkss s.sets)))⟩,⟨⟨_,rfl,(by rw [hkv];exact okz_st (fz_agg10 fzc fzc fzc fzc fzc fzc fzc fzc (by exact fz_toks o.sl) (by exact fz_mkss o.sets)))⟩,⟨⟨_,rfl,(okz_rtN rfl rfl rfl rfl rfl)⟩,⟨⟨_,rfl,okz_mps⟩,trivial⟩⟩⟩⟩⟩
 have hr3:=hc3;(try simp only [hcs,Int.reduceToNat] at hc3)
 have hkv:kindV (routeV L []) s o e bad=(true,o,bad):=(by unfold kindV;rw [if_neg om,if_neg om,if_neg om])
 refine hw_skip<|h7 _ ?_
 refine hw_exit ?_
 refine hq_block_on rfl ?_
 refine hq_then_exit ?_
 refine hq_block_on rfl ?_
 refine hq_block_on rfl ?_
 refine hq_then_exit ?_
 refine hq_block_on rfl ?_
 refine hq_then_exit<|hq_block_here<|h2 _<|srg fun N h25=>sa<|snl h25<|hw_ret ?_
 refine hf_retR1 ok hX RetS.one rfl (rval_tmp rfl) [] rfl pre0 (()) (trivial) (by rfl) (by rfl) ((by rw [hkv];exact .fz _ _ (.imm _))) ?_
 exact ⟨⟨_,rfl,(okz_sh rfl rfl (by rw [hkv]) rfl rfl)⟩,⟨⟨_,rfl,(okz_st (fz_agg10 fzc fzc fzc fzc fzc fzc fzc fzc (by exact fz_toks s.sl) (by exact fz_mkss s.sets)))⟩,⟨⟨_,rfl,(by rw [hkv];exact okz_st (fz_agg10 fzc fzc fzc fzc fzc fzc fzc fzc (by exact fz_toks o.sl) (by exact fz_mkss o.sets)))⟩,⟨⟨_,rfl,(okz_rtN rfl rfl rfl rfl rfl)⟩,⟨⟨_,rfl,okz_mps⟩,trivial⟩⟩⟩⟩⟩
set_option maxHeartbeats 400000 in
theorem Clone_mks (A:Option Addr) (n c B:Nat) (l:List Mks) (w:World) (hn:l.length=n) (h:Sl w B 8 Mks.cells A l) (hB:B≤w.heap.size) (hl:n≤1000000000) :
    Calls Try.prog 50 #[.slice A n c] w (GivesSl 69 8 Mks.cells w l):=by
  have hq:=Lib.run_eql_slice_nil (P:=Try.prog) w 24 69 A n c 0 0 Try.underlying24
  cases A with
  | none =>
    have hl0:l=[]:=by
      rcases Nat.eq_zero_or_pos l.length with h0 | h0
      · exact List.eq_nil_of_length_eq_zero h0
      · obtain ⟨b,o,e,_⟩:=h.addr h0 (by omega);cases e
    subst hl0
    obtain rfl:0=n:=hn
    go_enter Try.func50,Try.ntmps50
    go_wp2
    go_ret
    exact GivesSl.of rfl rfl (Own.nil _ _ _ Mks.cells_length) (Below.refl _ _)
  | some a =>
    have HN:=Lib.hid hn;clear hn
    go_enter Try.func50,Try.ntmps50
    go_wp2_with (at_builtin;refine wpList_append_sl rfl _ _ _ rfl mksElem w.heap.size Mks.cells mks_one _ [] 0 rfl rfl (Own.empty _ _ Mks.cells_length (Nat.le_refl _)) B _ n _ l rfl HN.out (h.alloc hB _) (by omega) (le_alloc (Nat.le_refl _) _) ?_;intro A2 c2 w2 hown2 hg2 hat2)
    go_ret
    exact GivesSl.of HN.out rfl (by simpa using hown2) ((Own.empty _ _ Mks.cells_length (Nat.le_refl _)).below_grown ((Below.refl _ _).alloc (Nat.le_refl _) _) hg2 (Nat.le_refl _) (le_alloc (Nat.le_refl _) _))
end Go.Proofs.Ytkcfhciffdnmmaa
