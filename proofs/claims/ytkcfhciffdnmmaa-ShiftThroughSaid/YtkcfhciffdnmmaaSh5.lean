/-
  The program's way of a step over a route (printed by tools/gen_sh3.py).
-/
import Derived.Test.YtkcfhciffdnmmaaTh2
import Derived.Test.YtkcfhciffdnmmaaSmV
import Derived.Test.YtkcfhciffdnmmaaCloneR
import Derived.Test.YtkcfhciffdnmmaaShV
namespace Go.Proofs.Ytkcfhciffdnmmaa
set_option linter.unusedSimpArgs false
set_option linter.unusedVariables false
set_option maxRecDepth 100000
set_option maxHeartbeats 1000000
open Go.RowKit
def shF (g:Nat) (bad:Bool):Nat→HV
 | 0=>.bnd (.func 25) (.pt 9101 g 0 0)
 | _=>boolV bad
@[reducible] def shO (gs g:Nat) (bad:Bool):HObj:=⟨gs,1,2,99,0,fun _=>shF g bad⟩
@[reducible] def stO (g:Nat) (s:St):HObj:=⟨g,1,10,26,0,fun _=>stF s⟩
theorem okz_sh {kp sh:List (Nat×HObj)} {gs g:Nat} {b b':Bool} {F:Nat→Nat→HV} {o1:HObj} (h0:F 0 0=.bnd (.func 25) (.pt 9101 g 0 0)) (h1:F 0 1=boolV b) (hb:b=b') (ho:hget kp 9101=some o1) (hg:o1.g=g):OKz kp sh ⟨gs,1,2,99,0,F⟩ (shO gs g b'):=.of fun i j hi hj=>by
 obtain rfl:i=0:=by omega
 subst hb
 match j,hj with
 | 0,_=>rw [h0];exact .bnd _ _ _ (.pt _ _ _ _ _ ho hg)
 | 1,_=>rw [h1];exact .fz _ _ (.imm _)
theorem osub_sh {gs g:Nat} {b:Bool} {F:Nat→Nat→HV} (h0:F 0 0=.bnd (.func 25) (.pt 9101 g 0 0)) (h1:F 0 1=boolV b):OSub ⟨gs,1,2,99,0,F⟩ (shO gs g b):=OSub.of fun i j hi hj=>by
 obtain rfl:i=0:=by omega
 match j,hj with
 | 0,_=>rw [h0];exact .refl _
 | 1,_=>rw [h1];exact .refl _
theorem okz_st {kp sh:List (Nat×HObj)} {g:Nat} {F:Nat→Nat→HV} {s:St} (h:Fz sh (.agg 10 (F 0)) (.agg 10 (stF s))):OKz kp sh ⟨g,1,10,26,0,F⟩ (stO g s):=.of fun i j hi hj=>by
 obtain rfl:i=0:=by omega
 cases h with
 | agg _ _ _ h=>exact .fz _ _ (h j hj)
theorem bne_dec (x:Int):(x != 0)=decide (x≠0):=by by_cases h:x=0 <;> simp [h]
theorem rowI_stop {tl:TF} {f fr:Int} {n i:Nat} {bad:Bool} (hi:i < n) (h:(tl (f+i) 1).1.gone=true∨(tl (f+i) 1).1.pos≠fr+i):rowI tl f fr (n - i) i bad=(false,bad||decide ((tl (f+i) 1).2≠0)):=by
 rw [show n - i=(n - (i+1))+1 by omega,rowI,if_pos h]
theorem rowI_go {tl:TF} {f fr:Int} {n i:Nat} {bad:Bool} (hi:i < n) (h:¬ ((tl (f+i) 1).1.gone=true∨(tl (f+i) 1).1.pos≠fr+i)):rowI tl f fr (n - i) i bad=rowI tl f fr (n - (i+1)) (i+1) (bad||decide ((tl (f+i) 1).2≠0)):=by
 rw [show n - i=(n - (i+1))+1 by omega,rowI,if_neg h]
theorem rowI_end {tl:TF} {f fr:Int} {n i:Nat} {bad:Bool} (hi:n≤i):rowI tl f fr (n - i) i bad=(true,bad):=by
 rw [show n - i=0 by omega];rfl
theorem atN_h (gs:Nat) (bad:Bool) (g g2:Nat) (L:List (List Rg)) (hL:L.length≤100000) (hok:RtOk L []) (pos side:Int):HFunD Try.prog 49 [.pt 9201 gs 0 0,intV pos,intV side] [(9201,shO gs g bad),(9101,rtO g (.os 9102 g2 0 L.length) (.imm (.map none))),(9102,mpsO g2 L)] (plcH ((routeV L []) pos side).1) [(9201,shO gs g (bad||decide (((routeV L []) pos side).2≠0))),(9101,rtO g (.os 9102 g2 0 L.length) (.imm (.map none))),(9102,mpsO g2 L)]:=by
 intro c
 refine hfun_of Try.func49 rfl kr _ _ _ _ rfl 31 rfl rfl (fun X ok hX=>?_)
 refine srg fun N h1=>?_
 refine hm_1 6 (hop_alloc (id:=6) (sz:=5) zc_100 rfl rfl omx omx) rfl rfl pre0 rfl rfl (c':=c+1) rfl ?_
 refine snl h1<|srg fun N h2=>sm ?_
 first
 | refine hq_ 11 (hop_nilcheck_pt rfl) rfl rfl pre0 rfl rfl ?_
 | refine hq_ 11 (hop_nilcheck_fp rfl) rfl rfl pre0 rfl rfl ?_
 first
 | refine hq_ 12 (hop_fa fd_99_0 rfl) rfl rfl pre0 rfl rfl ?_
 | refine hq_ 12 (hop_fa_fp fd_99_0 rfl (by first | exact Nat.le_of_ble_eq_true rfl | omega | (dsimp only;omega) | (simp <;> omega))) rfl rfl pre0 rfl rfl ?_
 first
 | refine hq_ 13 (hol_load ty_60 rfl (by first | exact Nat.le_of_ble_eq_true rfl | omega | (dsimp only;omega) | (simp <;> omega)) (by first | exact Nat.le_of_ble_eq_true rfl | omega | (dsimp only;omega) | (simp <;> omega)) (fun h=>(by first | rfl | cases h))) rfl rfl (pre1 rfl) rfl rfl ?_
 | refine hq_ 13 (hop_load_fp ty_60 rfl (by first | exact Nat.le_of_ble_eq_true rfl | omega | (dsimp only;omega) | (simp <;> omega)) (fun h=>(by first | rfl | cases h))) rfl rfl pre0 rfl rfl ?_
 refine sm<|sm ?_
 refine hf_callBR 16 (xs:=[_,_]) (pre:=[(9101,_),(9102,_)]) (tellN_h g g2 L hL hok pos side _) rfl ⟨rfl,⟨rfl,trivial⟩⟩ (preC rfl (preC rfl pre0)) rfl rfl (fun x1 c1 hx1=>?_)
 (try dsimp only)
 refine sm ?_
 refine s0 hex ?_
 refine s0 hex ?_
 refine hm_1 7 (hop_alloc (id:=7) (sz:=5) zc_100 rfl rfl omx omx) rfl rfl pre0 rfl rfl (c':=c1+1) rfl ?_
 first
 | refine hm_s1 (hol_storeW ty_100 rfl rfl rfl rfl) rfl rfl (pre1 rfl) (c':=c1+2) rfl ?_
 | refine hm_s1 (hol_store ty_100 rfl rfl rfl rfl (by first | exact Nat.le_of_ble_eq_true rfl | omega | (dsimp only;omega) | (simp <;> omega)) (by first | exact Nat.le_of_ble_eq_true rfl | omega | (dsimp only;omega) | (simp <;> omega)) (by first | exact Nat.le_of_ble_eq_true rfl | omega | (dsimp only;omega) | (simp <;> omega))) rfl rfl (pre1 rfl) (c':=c1+2) rfl ?_
 refine sa<|snl h2<|srg fun N h3=>sm<|sm ?_
 first
 | refine hq_ 21 (hop_nilcheck_pt rfl) rfl rfl pre0 rfl rfl ?_
 | refine hq_ 21 (hop_nilcheck_fp rfl) rfl rfl pre0 rfl rfl ?_
 first
 | refine hq_ 22 (hop_fa fd_99_1 rfl) rfl rfl pre0 rfl rfl ?_
 | refine hq_ 22 (hop_fa_fp fd_99_1 rfl (by first | exact Nat.le_of_ble_eq_true rfl | omega | (dsimp only;omega) | (simp <;> omega))) rfl rfl pre0 rfl rfl ?_
 first
 | refine hq_ 23 (hol_load ty_4 rfl (by first | exact Nat.le_of_ble_eq_true rfl | omega | (dsimp only;omega) | (simp <;> omega)) (by first | exact Nat.le_of_ble_eq_true rfl | omega | (dsimp only;omega) | (simp <;> omega)) (fun h=>(by first | rfl | cases h))) rfl rfl (pre1 rfl) rfl rfl ?_
 | refine hq_ 23 (hop_load_fp ty_4 rfl (by first | exact Nat.le_of_ble_eq_true rfl | omega | (dsimp only;omega) | (simp <;> omega)) (fun h=>(by first | rfl | cases h))) rfl rfl pre0 rfl rfl ?_
 refine sm ?_
 first
 | refine stg 24 (fun hb=>hop_move rfl) rfl rfl rfl rfl rfl ?_
 | refine sth 24 (fun hb=>hop_move rfl) rfl rfl rfl rfl rfl ?_
 first
 | refine stg 24 (fun hb=>hop_neq rfl rfl) rfl rfl rfl rfl rfl ?_
 | refine sth 24 (fun hb=>hop_neq rfl rfl) rfl rfl rfl rfl rfl ?_
 first
 | refine hq_p 27 (hstep_and _ _ rfl rfl rfl) rfl rfl rfl ?_
 | refine hq_p 27 (hstep_or _ _ rfl rfl rfl) rfl rfl rfl ?_
 | refine hq_p 27 (hstep_ite _ _ _ rfl rfl rfl) rfl rfl rfl ?_
 | refine hq_p 27 (hstep_pick _ _ _ _ rfl rfl rfl (fun _=>.refl _) (fun _=>.refl _)) rfl rfl rfl ?_
 first
 | refine hq_ 28 (hop_nilcheck_pt rfl) rfl rfl pre0 rfl rfl ?_
 | refine hq_ 28 (hop_nilcheck_fp rfl) rfl rfl pre0 rfl rfl ?_
 first
 | refine hq_ 29 (hop_fa fd_99_1 rfl) rfl rfl pre0 rfl rfl ?_
 | refine hq_ 29 (hop_fa_fp fd_99_1 rfl (by first | exact Nat.le_of_ble_eq_true rfl | omega | (dsimp only;omega) | (simp <;> omega))) rfl rfl pre0 rfl rfl ?_
 first
 | refine hm_s1 (hol_storeW ty_4 rfl rfl rfl rfl) rfl rfl (pre1 rfl) (c':=c1+3) rfl ?_
 | refine hm_s1 (hol_store ty_4 rfl rfl rfl rfl (by first | exact Nat.le_of_ble_eq_true rfl | omega | (dsimp only;omega) | (simp <;> omega)) (by first | exact Nat.le_of_ble_eq_true rfl | omega | (dsimp only;omega) | (simp <;> omega)) (by first | exact Nat.le_of_ble_eq_true rfl | omega | (dsimp only;omega) | (simp <;> omega))) rfl rfl (pre1 rfl) (c':=c1+3) rfl ?_
 refine nu ?_
 refine h3 _<|srg fun N h4=>?_
 first
 | refine hq_ 30 (hol_load ty_100 rfl (by first | exact Nat.le_of_ble_eq_true rfl | omega | (dsimp only;omega) | (simp <;> omega)) (by first | exact Nat.le_of_ble_eq_true rfl | omega | (dsimp only;omega) | (simp <;> omega)) (fun h=>(by first | rfl | cases h))) rfl rfl (pre1 rfl) rfl rfl ?_
 | refine hq_ 30 (hop_load_fp ty_100 rfl (by first | exact Nat.le_of_ble_eq_true rfl | omega | (dsimp only;omega) | (simp <;> omega)) (fun h=>(by first | rfl | cases h))) rfl rfl pre0 rfl rfl ?_
 first
 | refine hm_s1 (hol_storeW ty_100 rfl rfl rfl rfl) rfl rfl (pre1 rfl) (c':=c1+4) rfl ?_
 | refine hm_s1 (hol_store ty_100 rfl rfl rfl rfl (by first | exact Nat.le_of_ble_eq_true rfl | omega | (dsimp only;omega) | (simp <;> omega)) (by first | exact Nat.le_of_ble_eq_true rfl | omega | (dsimp only;omega) | (simp <;> omega)) (by first | exact Nat.le_of_ble_eq_true rfl | omega | (dsimp only;omega) | (simp <;> omega))) rfl rfl (pre1 rfl) (c':=c1+4) rfl ?_
 refine snl h4<|hw_ret ?_
 refine hf_retR1 ok hX RetS.one rfl (rvl_cell rfl rfl ty_100 rqc rfl rfl) [] rfl pre0 (()) (trivial) (by rfl) (by rfl) ((.fz _ _ (fz_plc (by exact j5i rfl rfl rfl rfl rfl)))) ?_
 exact ⟨⟨_,rfl,(okz_sh rfl rfl (by rw [bne_dec]) rfl rfl)⟩,⟨⟨_,rfl,(okz_rtN rfl rfl rfl rfl rfl)⟩,⟨⟨_,rfl,okz_mps⟩,trivial⟩⟩⟩
theorem rowN_h (gs:Nat) (bad:Bool) (g g2:Nat) (L:List (List Rg)) (hL:L.length≤100000) (hok:RtOk L []) (s:St) (fr:Int) (hx:0≤s.f∧s.f≤s.t∧s.t≤1073741824) (hfr:-4398046511104≤fr∧fr≤4398046511104):HFunD Try.prog 63 [.pt 9201 gs 0 0,stV s,intV fr] [(9201,shO gs g bad),(9101,rtO g (.os 9102 g2 0 L.length) (.imm (.map none))),(9102,mpsO g2 L)] (boolV (rowI (routeV L []) s.f fr (s.t - s.f).toNat 0 bad).1) [(9201,shO gs g (rowI (routeV L []) s.f fr (s.t - s.f).toNat 0 bad).2),(9101,rtO g (.os 9102 g2 0 L.length) (.imm (.map none))),(9102,mpsO g2 L)]:=by
 intro c
 refine hfun_of Try.func63 rfl kr _ _ _ _ rfl 34 rfl rfl (fun X ok hX=>?_)
 refine srg fun N h1=>?_
 refine hm_1 4 (hop_box (id:=4) (sz:=10) rfl rfl rfl omx omx) rfl rfl pre0 rfl rfl (c':=c+1) rfl ?_
 refine sa<|snl h1<|hw_seq fun Nh2 h2=>hw_seq fun Nh3 h3=>?_
 let c0:=c
 refine hw_region ?_
 first
 | refine hq_ 9 (hop_fa fd_26_2 rfl) rfl rfl pre0 rfl rfl ?_
 | refine hq_ 9 (hop_fa_fp fd_26_2 rfl (by first | exact Nat.le_of_ble_eq_true rfl | omega | (dsimp only;omega) | (simp <;> omega))) rfl rfl pre0 rfl rfl ?_
 first
 | refine hq_ 10 (HOp.val (v':=intV s.t) (hol_load ty_3 rfl (by first | exact Nat.le_of_ble_eq_true rfl | omega | (dsimp only;omega) | (simp <;> omega)) (by first | exact Nat.le_of_ble_eq_true rfl | omega | (dsimp only;omega) | (simp <;> omega)) (fun h=>(by first | rfl | cases h))) (rfl)) rfl rfl (pre1 rfl) rfl rfl ?_
 | refine hq_ 10 (HOp.val (v':=intV s.t) (hop_load_fp ty_3 rfl (by first | exact Nat.le_of_ble_eq_true rfl | omega | (dsimp only;omega) | (simp <;> omega)) (fun h=>(by first | rfl | cases h))) (rfl)) rfl rfl pre0 rfl rfl ?_
 first
 | refine hq_ 11 (hop_fa fd_26_1 rfl) rfl rfl pre0 rfl rfl ?_
 | refine hq_ 11 (hop_fa_fp fd_26_1 rfl (by first | exact Nat.le_of_ble_eq_true rfl | omega | (dsimp only;omega) | (simp <;> omega))) rfl rfl pre0 rfl rfl ?_
 first
 | refine hq_ 12 (HOp.val (v':=intV s.f) (hol_load ty_3 rfl (by first | exact Nat.le_of_ble_eq_true rfl | omega | (dsimp only;omega) | (simp <;> omega)) (by first | exact Nat.le_of_ble_eq_true rfl | omega | (dsimp only;omega) | (simp <;> omega)) (fun h=>(by first | rfl | cases h))) (rfl)) rfl rfl (pre1 rfl) rfl rfl ?_
 | refine hq_ 12 (HOp.val (v':=intV s.f) (hop_load_fp ty_3 rfl (by first | exact Nat.le_of_ble_eq_true rfl | omega | (dsimp only;omega) | (simp <;> omega)) (fun h=>(by first | rfl | cases h))) (rfl)) rfl rfl pre0 rfl rfl ?_
 first
 | refine hq_ 13 (hop_subi rfl rfl rfl (by first | exact Nat.le_of_ble_eq_true rfl | omega | (dsimp only;omega) | (simp <;> omega)) (by first | exact Nat.le_of_ble_eq_true rfl | omega | (dsimp only;omega) | (simp <;> omega))) rfl rfl pre0 rfl rfl ?_
 | refine hq_ 13 (hop_sub rfl rfl) rfl rfl pre0 rfl rfl ?_
 refine sm<|snl h3<|hw_block ?_
 refine hw_loopc (α:=Nat×Bool) (fun x c=>⟨34,[(0,.v (.pt 9201 gs 0 0)),(2,.v (intV fr)),(4,.v (.pt 4 c0 0 0)),(13,.v (intV (s.t - s.f))),(14,.v (intV (x.1:Int)))],[(4,stO c0 s),(9201,shO gs g x.2),(9101,rtO g (.os 9102 g2 0 L.length) (.imm (.map none))),(9102,mpsO g2 L)],c⟩) (fun x=>x.1≤(s.t - s.f).toNat∧rowI (routeV L []) s.f fr ((s.t - s.f).toNat - x.1) x.1 x.2=rowI (routeV L []) s.f fr (s.t - s.f).toNat 0 bad) (fun x=>(s.t - s.f).toNat - x.1) ((0,bad)) (by exact ⟨Nat.zero_le _,rfl⟩) (hsub_of rfl (Nat.le_refl _) tsa hsa) (fun x c hx NhL4 hL4=>?_)
 revert hx hL4;obtain ⟨i,b⟩:=x;intro hx hL4;dsimp only at hx hL4 ⊢
 obtain ⟨hil,hgo⟩:=hx
 refine srg fun N h5=>?_
 refine s0 hli ?_
 refine snl h5<|hw_seq fun Nh6 h6=>?_
 refine wc (fun hc0=>?_) (fun hc0=>?_)
 ·have hr0:=hc0;(try simp only [hcs,Int.reduceToNat] at hc0)
  have hlt:i < (s.t - s.f).toNat:=om
  refine hw_skip<|h6 _<|hw_seq fun Nh7 h7=>hw_block<|srg fun N h8=>sm<|sa<|snl h8<|srg fun N h9=>sm ?_
  first
  | refine hq_ 18 (hop_fa fd_26_1 rfl) rfl rfl pre0 rfl rfl ?_
  | refine hq_ 18 (hop_fa_fp fd_26_1 rfl (by first | exact Nat.le_of_ble_eq_true rfl | omega | (dsimp only;omega) | (simp <;> omega))) rfl rfl pre0 rfl rfl ?_
  first
  | refine hq_ 19 (HOp.val (v':=intV s.f) (hol_load ty_3 rfl (by first | exact Nat.le_of_ble_eq_true rfl | omega | (dsimp only;omega) | (simp <;> omega)) (by first | exact Nat.le_of_ble_eq_true rfl | omega | (dsimp only;omega) | (simp <;> omega)) (fun h=>(by first | rfl | cases h))) (rfl)) rfl rfl (pre1 rfl) rfl rfl ?_
  | refine hq_ 19 (HOp.val (v':=intV s.f) (hop_load_fp ty_3 rfl (by first | exact Nat.le_of_ble_eq_true rfl | omega | (dsimp only;omega) | (simp <;> omega)) (fun h=>(by first | rfl | cases h))) (rfl)) rfl rfl pre0 rfl rfl ?_
  refine sm ?_
  first
  | refine hq_ 21 (hop_addi rfl rfl rfl (by first | exact Nat.le_of_ble_eq_true rfl | omega | (dsimp only;omega) | (simp <;> omega)) (by first | exact Nat.le_of_ble_eq_true rfl | omega | (dsimp only;omega) | (simp <;> omega))) rfl rfl pre0 rfl rfl ?_
  | refine hq_ 21 (hop_add rfl rfl) rfl rfl pre0 rfl rfl ?_
  refine hf_callR 22 (xs:=[_,_,_]) (pre:=[(9201,_),(9101,_),(9102,_)]) (atN_h gs b g g2 L hL hok (s.f+i) 1 _) ⟨rfl,⟨rfl,⟨rfl,trivial⟩⟩⟩ (preC rfl (preC rfl (preC rfl pre0))) rfl rfl (fun x1 c1 hx1=>?_)
  (try dsimp only)
  refine hm_1 8 (hop_alloc (id:=8) (sz:=5) zc_100 rfl rfl omx omx) rfl rfl pre0 rfl rfl (c':=c1+1) rfl ?_
  first
  | refine hm_s1 (hol_storeW ty_100 rfl rfl rfl rfl) rfl rfl (pre1 rfl) (c':=c1+2) rfl ?_
  | refine hm_s1 (hol_store ty_100 rfl rfl rfl rfl (by first | exact Nat.le_of_ble_eq_true rfl | omega | (dsimp only;omega) | (simp <;> omega)) (by first | exact Nat.le_of_ble_eq_true rfl | omega | (dsimp only;omega) | (simp <;> omega)) (by first | exact Nat.le_of_ble_eq_true rfl | omega | (dsimp only;omega) | (simp <;> omega))) rfl rfl (pre1 rfl) (c':=c1+2) rfl ?_
  refine snl h9<|srg fun N h10=>?_
  first
  | refine hq_ 23 (hop_fa fd_100_1 rfl) rfl rfl pre0 rfl rfl ?_
  | refine hq_ 23 (hop_fa_fp fd_100_1 rfl (by first | exact Nat.le_of_ble_eq_true rfl | omega | (dsimp only;omega) | (simp <;> omega))) rfl rfl pre0 rfl rfl ?_
  first
  | refine hq_ 24 (HOp.val (v':=boolV ((routeV L []) (s.f+i) 1).1.gone) (hol_load ty_4 rfl (by first | exact Nat.le_of_ble_eq_true rfl | omega | (dsimp only;omega) | (simp <;> omega)) (by first | exact Nat.le_of_ble_eq_true rfl | omega | (dsimp only;omega) | (simp <;> omega)) (fun h=>(by first | rfl | cases h))) (rfl)) rfl rfl (pre1 rfl) rfl rfl ?_
  | refine hq_ 24 (HOp.val (v':=boolV ((routeV L []) (s.f+i) 1).1.gone) (hop_load_fp ty_4 rfl (by first | exact Nat.le_of_ble_eq_true rfl | omega | (dsimp only;omega) | (simp <;> omega)) (fun h=>(by first | rfl | cases h))) (rfl)) rfl rfl pre0 rfl rfl ?_
  refine sm ?_
  first
  | refine stg 25 (fun hb=>hop_fa fd_100_0 rfl) rfl rfl rfl rfl rfl ?_
  | refine sth 25 (fun hb=>hop_fa fd_100_0 rfl) rfl rfl rfl rfl rfl ?_
  | refine stg 25 (fun hb=>hop_fa_fp fd_100_0 rfl (by first | exact Nat.le_of_ble_eq_true rfl | (simp at hb;first | omega | (dsimp only;omega) | (simp <;> omega)) | omega | (dsimp only;omega))) rfl rfl rfl rfl rfl ?_
  | refine sth 25 (fun hb=>hop_fa_fp fd_100_0 rfl (by first | exact Nat.le_of_ble_eq_true rfl | (simp at hb;first | omega | (dsimp only;omega) | (simp <;> omega)) | omega | (dsimp only;omega))) rfl rfl rfl rfl rfl ?_
  first
  | refine hq_g 27 2 25 false _ (fun hb=>HOp.val (v':=intV ((routeV L []) (s.f+i) 1).1.pos) (hol_load ty_3 rfl (by first | exact Nat.le_of_ble_eq_true rfl | (simp at hb;first | omega | (dsimp only;omega) | (simp <;> omega)) | omega | (dsimp only;omega)) (by first | exact Nat.le_of_ble_eq_true rfl | (simp at hb;first | omega | (dsimp only;omega) | (simp <;> omega)) | omega | (dsimp only;omega)) (fun h=>(by first | rfl | cases h))) (rfl)) rfl rfl rfl rfl (pre1 rfl) rfl rfl rfl ?_
  | refine hq_g2 27 2 25 _ _ false _ (fun hb=>HOp.val (v':=intV ((routeV L []) (s.f+i) 1).1.pos) (hol_load ty_3 rfl (by first | exact Nat.le_of_ble_eq_true rfl | (simp at hb;first | omega | (dsimp only;omega) | (simp <;> omega)) | omega | (dsimp only;omega)) (by first | exact Nat.le_of_ble_eq_true rfl | (simp at hb;first | omega | (dsimp only;omega) | (simp <;> omega)) | omega | (dsimp only;omega)) (fun h=>(by first | rfl | cases h))) (rfl)) rfl rfl rfl rfl (pre1 rfl) rfl rfl rfl ?_
  | refine stg 25 (fun hb=>HOp.val (v':=intV ((routeV L []) (s.f+i) 1).1.pos) (hop_load_fp ty_3 rfl (by first | exact Nat.le_of_ble_eq_true rfl | (simp at hb;first | omega | (dsimp only;omega) | (simp <;> omega)) | omega | (dsimp only;omega)) (fun h=>(by first | rfl | cases h))) (rfl)) rfl rfl rfl rfl rfl ?_
  | refine sth 25 (fun hb=>HOp.val (v':=intV ((routeV L []) (s.f+i) 1).1.pos) (hop_load_fp ty_3 rfl (by first | exact Nat.le_of_ble_eq_true rfl | (simp at hb;first | omega | (dsimp only;omega) | (simp <;> omega)) | omega | (dsimp only;omega)) (fun h=>(by first | rfl | cases h))) (rfl)) rfl rfl rfl rfl rfl ?_
  first
  | refine stg 25 (fun hb=>hop_move rfl) rfl rfl rfl rfl rfl ?_
  | refine sth 25 (fun hb=>hop_move rfl) rfl rfl rfl rfl rfl ?_
  first
  | refine stg 25 (fun hb=>hop_move rfl) rfl rfl rfl rfl rfl ?_
  | refine sth 25 (fun hb=>hop_move rfl) rfl rfl rfl rfl rfl ?_
  first
  | refine stg 25 (fun hb=>hop_addi rfl rfl rfl (by first | exact Nat.le_of_ble_eq_true rfl | (simp at hb;first | omega | (dsimp only;omega) | (simp <;> omega)) | omega | (dsimp only;omega)) (by first | exact Nat.le_of_ble_eq_true rfl | (simp at hb;first | omega | (dsimp only;omega) | (simp <;> omega)) | omega | (dsimp only;omega))) rfl rfl rfl rfl rfl ?_
  | refine sth 25 (fun hb=>hop_addi rfl rfl rfl (by first | exact Nat.le_of_ble_eq_true rfl | (simp at hb;first | omega | (dsimp only;omega) | (simp <;> omega)) | omega | (dsimp only;omega)) (by first | exact Nat.le_of_ble_eq_true rfl | (simp at hb;first | omega | (dsimp only;omega) | (simp <;> omega)) | omega | (dsimp only;omega))) rfl rfl rfl rfl rfl ?_
  | refine stg 25 (fun hb=>hop_add rfl rfl) rfl rfl rfl rfl rfl ?_
  | refine sth 25 (fun hb=>hop_add rfl rfl) rfl rfl rfl rfl rfl ?_
  first
  | refine stg 25 (fun hb=>hop_neq rfl rfl) rfl rfl rfl rfl rfl ?_
  | refine sth 25 (fun hb=>hop_neq rfl rfl) rfl rfl rfl rfl rfl ?_
  first
  | refine hq_p 32 (hstep_and _ _ rfl rfl rfl) rfl rfl rfl ?_
  | refine hq_p 32 (hstep_or _ _ rfl rfl rfl) rfl rfl rfl ?_
  | refine hq_p 32 (hstep_ite _ _ _ rfl rfl rfl) rfl rfl rfl ?_
  | refine hq_p 32 (hstep_pick _ _ _ _ rfl rfl rfl (fun _=>.refl _) (fun _=>.refl _)) rfl rfl rfl ?_
  refine nu ?_
  refine h10 _ ?_
  refine wc (fun hc1=>?_) (fun hc1=>?_)
  ·have hr1:=hc1;(try simp only [hcs,Int.reduceToNat] at hc1)
   have hst:=rowI_stop (tl:=(routeV L [])) (f:=s.f) (fr:=fr) (bad:=b) hlt (by simpa using hr1)
   refine srg fun N h11=>sa<|snl h11<|hw_ret<|hq_block_ret<|hq_then_ret<|hq_then_ret<|hq_block_ret<|hq_then_ret ?_
   refine hf_retR1 ok hX RetS.one rfl (rval_tmp rfl) [] rfl pre0 (()) (trivial) (by rfl) (by rfl) ((by rw [←hgo,hst];exact .fz _ _ (.imm _))) ?_
   exact ⟨⟨_,rfl,(okz_sh rfl rfl (by rw [←hgo,hst]) rfl rfl)⟩,⟨⟨_,rfl,(okz_rtN rfl rfl rfl rfl rfl)⟩,⟨⟨_,rfl,okz_mps⟩,trivial⟩⟩⟩
  have hr1:=hc1;(try simp only [hcs,Int.reduceToNat] at hc1)
  have hst:=rowI_go (tl:=(routeV L [])) (f:=s.f) (fr:=fr) (bad:=b) hlt (by simpa using hr1)
  refine hw_skip<|hq_block<|h7 _<|hw_region ?_
  first
  | refine hq_ 33 (hop_addi rfl rfl rfl (by first | exact Nat.le_of_ble_eq_true rfl | omega | (dsimp only;omega) | (simp <;> omega)) (by first | exact Nat.le_of_ble_eq_true rfl | omega | (dsimp only;omega) | (simp <;> omega))) rfl rfl pre0 rfl rfl ?_
  | refine hq_ 33 (hop_add rfl rfl) rfl rfl pre0 rfl rfl ?_
  refine sm<|hseq_nil ?_
  exact hL4 ((i+1,b||decide (((routeV L []) (s.f+i) 1).2≠0))) _ _ (by (try dsimp only);exact ⟨by omega,by rw [←hgo,hst]⟩) (by (try dsimp only);omega) (hsub_of rfl (Nat.le_refl _) tsa hsa)
 have hr0:=hc0;(try simp only [hcs,Int.reduceToNat] at hc0)
 have hst:=rowI_end (tl:=(routeV L [])) (f:=s.f) (fr:=fr) (bad:=b) (show (s.t - s.f).toNat≤i by omega)
 refine hw_exit ?_
 refine hq_then_exit<|hq_then_exit<|hq_block_here<|h2 _<|srg fun N h12=>sa<|snl h12<|hw_ret ?_
 refine hf_retR1 ok hX RetS.one rfl (rval_tmp rfl) [] rfl pre0 (()) (trivial) (by rfl) (by rfl) ((by rw [←hgo,hst];exact .fz _ _ (.imm _))) ?_
 exact ⟨⟨_,rfl,(okz_sh rfl rfl (by rw [←hgo,hst]) rfl rfl)⟩,⟨⟨_,rfl,(okz_rtN rfl rfl rfl rfl rfl)⟩,⟨⟨_,rfl,okz_mps⟩,trivial⟩⟩⟩
theorem kindN_h (gs:Nat) (bad:Bool) (g g2:Nat) (L:List (List Rg)) (hL:L.length≤100000) (hok:RtOk L []) (gx go:Nat) (s o:St) (e:Int) (hs:s.shape=true) (hof:-4398046511104≤o.f∧o.f≤4398046511104):HFunD Try.prog 51 [.pt 9201 gs 0 0,.pt 9301 gx 0 0,.pt 9302 go 0 0,intV e] [(9201,shO gs g bad),(9301,stO gx s),(9302,stO go o),(9101,rtO g (.os 9102 g2 0 L.length) (.imm (.map none))),(9102,mpsO g2 L)] (boolV (kindV (routeV L []) s o e bad).1) [(9201,shO gs g (kindV (routeV L []) s o e bad).2.2),(9301,stO gx s),(9302,stO go (kindV (routeV L []) s o e bad).2.1),(9101,rtO g (.os 9102 g2 0 L.length) (.imm (.map none))),(9102,mpsO g2 L)]:=by
 obtain ⟨q1,q2,q3,q4,q5⟩:=shape_in hs
 intro c
 refine hfun_of Try.func51 rfl kr _ _ _ _ rfl 101 rfl rfl (fun X ok hX=>?_)
 refine srg fun N h1=>sa<|snl h1<|hw_seq fun Nh2 h2=>srg fun N h3=>sm ?_
 first
 | refine hq_ 10 (hop_nilcheck_pt rfl) rfl rfl pre0 rfl rfl ?_
 | refine hq_ 10 (hop_nilcheck_fp rfl) rfl rfl pre0 rfl rfl ?_
 first
 | refine hq_ 11 (hop_fa fd_26_0 rfl) rfl rfl pre0 rfl rfl ?_
 | refine hq_ 11 (hop_fa_fp fd_26_0 rfl (by first | exact Nat.le_of_ble_eq_true rfl | omega | (dsimp only;omega) | (simp <;> omega))) rfl rfl pre0 rfl rfl ?_
 first
 | refine hq_ 12 (HOp.val (v':=intV s.k) (hol_load ty_3 rfl (by first | exact Nat.le_of_ble_eq_true rfl | omega | (dsimp only;omega) | (simp <;> omega)) (by first | exact Nat.le_of_ble_eq_true rfl | omega | (dsimp only;omega) | (simp <;> omega)) (fun h=>(by first | rfl | cases h))) (rfl)) rfl rfl (pre1 rfl) rfl rfl ?_
 | refine hq_ 12 (HOp.val (v':=intV s.k) (hop_load_fp ty_3 rfl (by first | exact Nat.le_of_ble_eq_true rfl | omega | (dsimp only;omega) | (simp <;> omega)) (fun h=>(by first | rfl | cases h))) (rfl)) rfl rfl pre0 rfl rfl ?_
 refine snl h3<|hw_block<|hw_seq fun Nh4 h4=>hw_block<|hw_seq fun Nh5 h5=>hw_block<|hw_block<|hw_seq fun Nh6 h6=>hw_block<|hw_seq fun Nh7 h7=>hw_seq fun Nh8 h8=>srg fun N h9=>?_
 refine s0 hqi ?_
 refine sa<|snl h9 ?_
 refine wc (fun hc0=>?_) (fun hc0=>?_)
 ·have hr0:=hc0;(try simp only [hcs,Int.reduceToNat] at hc0)
  have k2:s.k=2:=hc0;have hg:=gap_in hs k2;have hkv:kindV (routeV L []) s o e bad=(((decide (((routeV L []) s.gf (-1)).1.pos≥o.f)&&decide (((routeV L []) s.gf (-1)).1.pos≤((routeV L []) s.gt 1).1.pos))&&decide (((routeV L []) s.gt 1).1.pos≤e),o.mv o.f o.t ((routeV L []) s.gf (-1)).1.pos ((routeV L []) s.gt 1).1.pos,(bad||decide (((routeV L []) s.gf (-1)).2≠0))||decide (((routeV L []) s.gt 1).2≠0))):=if_pos k2
  refine hw_exit ?_
  refine hq_then_exit<|hq_then_exit<|hq_block_here<|h6 _<|hw_seq fun Nh10 h10=>hw_seq fun Nh11 h11=>hd_start ?_
  refine dm 1 ?_
  refine dm 2 ?_
  refine dm 3 ?_
  refine dm 4 ?_
  first
  | refine hd_q 25 (hop_nilcheck_pt rfl) rfl rfl pre0 rfl rfl (k':=5) rfl ?_
  | refine hd_q 25 (hop_nilcheck_fp rfl) rfl rfl pre0 rfl rfl (k':=5) rfl ?_
  first
  | refine hd_q 26 (hop_fa fd_26_3 rfl) rfl rfl pre0 rfl rfl (k':=6) rfl ?_
  | refine hd_q 26 (hop_fa_fp fd_26_3 rfl (by first | exact Nat.le_of_ble_eq_true rfl | omega | (dsimp only;omega) | (simp <;> omega))) rfl rfl pre0 rfl rfl (k':=6) rfl ?_
  first
  | refine hd_q 27 (HOp.val (v':=intV s.gf) (hol_load ty_3 rfl (by first | exact Nat.le_of_ble_eq_true rfl | omega | (dsimp only;omega) | (simp <;> omega)) (by first | exact Nat.le_of_ble_eq_true rfl | omega | (dsimp only;omega) | (simp <;> omega)) (fun h=>(by first | rfl | cases h))) (rfl)) rfl rfl (pre1 rfl) rfl rfl (k':=7) rfl ?_
  | refine hd_q 27 (HOp.val (v':=intV s.gf) (hop_load_fp ty_3 rfl (by first | exact Nat.le_of_ble_eq_true rfl | omega | (dsimp only;omega) | (simp <;> omega)) (fun h=>(by first | rfl | cases h))) (rfl)) rfl rfl pre0 rfl rfl (k':=7) rfl ?_
  refine hd_m 28 (hop_funD (xs:=[_,_,_]) (pre:=[(9201,_),(9101,_),(9102,_)]) (atN_h gs bad g g2 L hL hok s.gf (-1)) ((clocks_cons (id':=9201) (List.mem_cons_self ..) rfl (fun id o h=>⟨_,List.mem_cons_of_mem _ (hget_mem h),rfl⟩))) ⟨rfl,⟨rfl,⟨rfl,trivial⟩⟩⟩) rfl rfl (preC rfl (preC rfl (preC rfl pre0))) rfl rfl (k':=8) rfl ?_
  refine d0 9 (hop_field (T:=100) (fo:=0) kr rfl omx) ?_
  refine dm 10 ?_
  refine dm 11 ?_
  first
  | refine hd_q 32 (hop_nilcheck_pt rfl) rfl rfl pre0 rfl rfl (k':=12) rfl ?_
  | refine hd_q 32 (hop_nilcheck_fp rfl) rfl rfl pre0 rfl rfl (k':=12) rfl ?_
  first
  | refine hd_q 33 (hop_fa fd_26_4 rfl) rfl rfl pre0 rfl rfl (k':=13) rfl ?_
  | refine hd_q 33 (hop_fa_fp fd_26_4 rfl (by first | exact Nat.le_of_ble_eq_true rfl | omega | (dsimp only;omega) | (simp <;> omega))) rfl rfl pre0 rfl rfl (k':=13) rfl ?_
  first
  | refine hd_q 34 (HOp.val (v':=intV s.gt) (hol_load ty_3 rfl (by first | exact Nat.le_of_ble_eq_true rfl | omega | (dsimp only;omega) | (simp <;> omega)) (by first | exact Nat.le_of_ble_eq_true rfl | omega | (dsimp only;omega) | (simp <;> omega)) (fun h=>(by first | rfl | cases h))) (rfl)) rfl rfl (pre1 rfl) rfl rfl (k':=14) rfl ?_
  | refine hd_q 34 (HOp.val (v':=intV s.gt) (hop_load_fp ty_3 rfl (by first | exact Nat.le_of_ble_eq_true rfl | omega | (dsimp only;omega) | (simp <;> omega)) (fun h=>(by first | rfl | cases h))) (rfl)) rfl rfl pre0 rfl rfl (k':=14) rfl ?_
  refine hd_m 35 (hop_funD (xs:=[_,_,_]) (pre:=[(9201,_),(9101,_),(9102,_)]) (atN_h gs (bad||decide (((routeV L []) s.gf (-1)).2≠0)) g g2 L hL hok s.gt 1) ((clocks_cons (id':=9201) (List.mem_cons_self ..) rfl (fun id o h=>⟨_,List.mem_cons_of_mem _ (hget_mem h),rfl⟩))) ⟨rfl,⟨rfl,⟨rfl,trivial⟩⟩⟩) rfl rfl (preC rfl (preC rfl (preC rfl pre0))) rfl rfl (k':=15) rfl ?_
  refine d0 16 (hop_field (T:=100) (fo:=0) kr rfl omx) ?_
  first
  | refine hd_q 37 (hop_nilcheck_pt rfl) rfl rfl pre0 rfl rfl (k':=17) rfl ?_
  | refine hd_q 37 (hop_nilcheck_fp rfl) rfl rfl pre0 rfl rfl (k':=17) rfl ?_
  first
  | refine hd_q 38 (hop_fa fd_26_3 rfl) rfl rfl pre0 rfl rfl (k':=18) rfl ?_
  | refine hd_q 38 (hop_fa_fp fd_26_3 rfl (by first | exact Nat.le_of_ble_eq_true rfl | omega | (dsimp only;omega) | (simp <;> omega))) rfl rfl pre0 rfl rfl (k':=18) rfl ?_
  first
  | refine hd_s1 (hol_storeW ty_3 rfl rfl rfl rfl) rfl rfl (pre1 rfl) (k':=19) rfl ?_
  | refine hd_s1 (hol_store ty_3 rfl rfl rfl rfl (by first | exact Nat.le_of_ble_eq_true rfl | omega | (dsimp only;omega) | (simp <;> omega)) (by first | exact Nat.le_of_ble_eq_true rfl | omega | (dsimp only;omega) | (simp <;> omega)) (by first | exact Nat.le_of_ble_eq_true rfl | omega | (dsimp only;omega) | (simp <;> omega))) rfl rfl (pre1 rfl) (k':=19) rfl ?_
  first
  | refine hd_q 39 (hop_nilcheck_pt rfl) rfl rfl pre0 rfl rfl (k':=20) rfl ?_
  | refine hd_q 39 (hop_nilcheck_fp rfl) rfl rfl pre0 rfl rfl (k':=20) rfl ?_
  first
  | refine hd_q 40 (hop_fa fd_26_4 rfl) rfl rfl pre0 rfl rfl (k':=21) rfl ?_
  | refine hd_q 40 (hop_fa_fp fd_26_4 rfl (by first | exact Nat.le_of_ble_eq_true rfl | omega | (dsimp only;omega) | (simp <;> omega))) rfl rfl pre0 rfl rfl (k':=21) rfl ?_
  first
  | refine hd_s1 (hol_storeW ty_3 rfl rfl rfl rfl) rfl rfl (pre1 rfl) (k':=22) rfl ?_
  | refine hd_s1 (hol_store ty_3 rfl rfl rfl rfl (by first | exact Nat.le_of_ble_eq_true rfl | omega | (dsimp only;omega) | (simp <;> omega)) (by first | exact Nat.le_of_ble_eq_true rfl | omega | (dsimp only;omega) | (simp <;> omega)) (by first | exact Nat.le_of_ble_eq_true rfl | omega | (dsimp only;omega) | (simp <;> omega))) rfl rfl (pre1 rfl) (k':=22) rfl ?_
  refine hd_nil kr kr (c':=c+22) rfl ?_
  refine h11 _<|hw_seq fun Nh12 h12=>hd_start ?_
  refine dm 1 ?_
  first
  | refine hd_q 42 (hop_nilcheck_pt rfl) rfl rfl pre0 rfl rfl (k':=2) rfl ?_
  | refine hd_q 42 (hop_nilcheck_fp rfl) rfl rfl pre0 rfl rfl (k':=2) rfl ?_
  first
  | refine hd_q 43 (hop_fa fd_26_3 rfl) rfl rfl pre0 rfl rfl (k':=3) rfl ?_
  | refine hd_q 43 (hop_fa_fp fd_26_3 rfl (by first | exact Nat.le_of_ble_eq_true rfl | omega | (dsimp only;omega) | (simp <;> omega))) rfl rfl pre0 rfl rfl (k':=3) rfl ?_
  first
  | refine hd_q 44 (hol_load ty_3 rfl (by first | exact Nat.le_of_ble_eq_true rfl | omega | (dsimp only;omega) | (simp <;> omega)) (by first | exact Nat.le_of_ble_eq_true rfl | omega | (dsimp only;omega) | (simp <;> omega)) (fun h=>(by first | rfl | cases h))) rfl rfl (pre1 rfl) rfl rfl (k':=4) rfl ?_
  | refine hd_q 44 (hop_load_fp ty_3 rfl (by first | exact Nat.le_of_ble_eq_true rfl | omega | (dsimp only;omega) | (simp <;> omega)) (fun h=>(by first | rfl | cases h))) rfl rfl pre0 rfl rfl (k':=4) rfl ?_
  refine dm 5 ?_
  first
  | refine hd_q 46 (hop_nilcheck_pt rfl) rfl rfl pre0 rfl rfl (k':=6) rfl ?_
  | refine hd_q 46 (hop_nilcheck_fp rfl) rfl rfl pre0 rfl rfl (k':=6) rfl ?_
  first
  | refine hd_q 47 (hop_fa fd_26_1 rfl) rfl rfl pre0 rfl rfl (k':=7) rfl ?_
  | refine hd_q 47 (hop_fa_fp fd_26_1 rfl (by first | exact Nat.le_of_ble_eq_true rfl | omega | (dsimp only;omega) | (simp <;> omega))) rfl rfl pre0 rfl rfl (k':=7) rfl ?_
  first
  | refine hd_q 48 (hol_load ty_3 rfl (by first | exact Nat.le_of_ble_eq_true rfl | omega | (dsimp only;omega) | (simp <;> omega)) (by first | exact Nat.le_of_ble_eq_true rfl | omega | (dsimp only;omega) | (simp <;> omega)) (fun h=>(by first | rfl | cases h))) rfl rfl (pre1 rfl) rfl rfl (k':=8) rfl ?_
  | refine hd_q 48 (hop_load_fp ty_3 rfl (by first | exact Nat.le_of_ble_eq_true rfl | omega | (dsimp only;omega) | (simp <;> omega)) (fun h=>(by first | rfl | cases h))) rfl rfl pre0 rfl rfl (k':=8) rfl ?_
  refine d0 9 (hop_geq rfl rfl) ?_
  refine dm 10 ?_
  refine hd_g 51 9 50 true _ (fun hb=>hop_move rfl) rfl rfl rfl rfl pre0 rfl rfl rfl (k':=11) rfl ?_
  first
  | refine hd_g 52 9 50 true _ (fun hb=>hop_nilcheck_pt rfl) rfl rfl rfl rfl pre0 rfl rfl rfl (k':=12) rfl ?_
  | refine hd_g 52 9 50 true _ (fun hb=>hop_nilcheck_fp rfl) rfl rfl rfl rfl pre0 rfl rfl rfl (k':=12) rfl ?_
  first
  | refine hd_g 53 9 50 true _ (fun hb=>hop_fa fd_26_3 rfl) rfl rfl rfl rfl pre0 rfl rfl rfl (k':=13) rfl ?_
  | refine hd_g 53 9 50 true _ (fun hb=>hop_fa_fp fd_26_3 rfl (by first | exact Nat.le_of_ble_eq_true rfl | (simp at hb;first | omega | (dsimp only;omega) | (simp <;> omega)) | omega | (dsimp only;omega))) rfl rfl rfl rfl pre0 rfl rfl rfl (k':=13) rfl ?_
  first
  | refine hd_g 54 9 50 true _ (fun hb=>hol_load ty_3 rfl (by first | exact Nat.le_of_ble_eq_true rfl | (simp at hb;first | omega | (dsimp only;omega) | (simp <;> omega)) | omega | (dsimp only;omega)) (by first | exact Nat.le_of_ble_eq_true rfl | (simp at hb;first | omega | (dsimp only;omega) | (simp <;> omega)) | omega | (dsimp only;omega)) (fun h=>(by first | rfl | cases h))) rfl rfl rfl rfl (pre1 rfl) rfl rfl rfl (k':=14) rfl ?_
  | refine hd_g 54 9 50 true _ (fun hb=>hop_load_fp ty_3 rfl (by first | exact Nat.le_of_ble_eq_true rfl | (simp at hb;first | omega | (dsimp only;omega) | (simp <;> omega)) | omega | (dsimp only;omega)) (fun h=>(by first | rfl | cases h))) rfl rfl rfl rfl pre0 rfl rfl rfl (k':=14) rfl ?_
  refine hd_g 55 9 50 true _ (fun hb=>hop_move rfl) rfl rfl rfl rfl pre0 rfl rfl rfl (k':=15) rfl ?_
  first
  | refine hd_g 56 9 50 true _ (fun hb=>hop_nilcheck_pt rfl) rfl rfl rfl rfl pre0 rfl rfl rfl (k':=16) rfl ?_
  | refine hd_g 56 9 50 true _ (fun hb=>hop_nilcheck_fp rfl) rfl rfl rfl rfl pre0 rfl rfl rfl (k':=16) rfl ?_
  first
  | refine hd_g 57 9 50 true _ (fun hb=>hop_fa fd_26_4 rfl) rfl rfl rfl rfl pre0 rfl rfl rfl (k':=17) rfl ?_
  | refine hd_g 57 9 50 true _ (fun hb=>hop_fa_fp fd_26_4 rfl (by first | exact Nat.le_of_ble_eq_true rfl | (simp at hb;first | omega | (dsimp only;omega) | (simp <;> omega)) | omega | (dsimp only;omega))) rfl rfl rfl rfl pre0 rfl rfl rfl (k':=17) rfl ?_
  first
  | refine hd_g 58 9 50 true _ (fun hb=>hol_load ty_3 rfl (by first | exact Nat.le_of_ble_eq_true rfl | (simp at hb;first | omega | (dsimp only;omega) | (simp <;> omega)) | omega | (dsimp only;omega)) (by first | exact Nat.le_of_ble_eq_true rfl | (simp at hb;first | omega | (dsimp only;omega) | (simp <;> omega)) | omega | (dsimp only;omega)) (fun h=>(by first | rfl | cases h))) rfl rfl rfl rfl (pre1 rfl) rfl rfl rfl (k':=18) rfl ?_
  | refine hd_g 58 9 50 true _ (fun hb=>hop_load_fp ty_3 rfl (by first | exact Nat.le_of_ble_eq_true rfl | (simp at hb;first | omega | (dsimp only;omega) | (simp <;> omega)) | omega | (dsimp only;omega)) (fun h=>(by first | rfl | cases h))) rfl rfl rfl rfl pre0 rfl rfl rfl (k':=18) rfl ?_
  refine hd_g 59 9 50 true _ (fun hb=>hop_leq rfl rfl) rfl rfl rfl rfl pre0 rfl rfl rfl (k':=19) rfl ?_
  first
  | refine hd_p 60 (hstep_and _ _ rfl rfl rfl) rfl rfl rfl (k':=20) rfl ?_
  | refine hd_p 60 (hstep_or _ _ rfl rfl rfl) rfl rfl rfl (k':=20) rfl ?_
  | refine hd_p 60 (hstep_pick _ _ _ _ rfl rfl rfl (fun _=>.refl _) (fun _=>.refl _)) rfl rfl rfl (k':=20) rfl ?_
  refine dm 21 ?_
  refine hd_g 62 20 61 true _ (fun hb=>hop_move rfl) rfl rfl rfl rfl pre0 rfl rfl rfl (k':=22) rfl ?_
  first
  | refine hd_g 63 20 61 true _ (fun hb=>hop_nilcheck_pt rfl) rfl rfl rfl rfl pre0 rfl rfl rfl (k':=23) rfl ?_
  | refine hd_g 63 20 61 true _ (fun hb=>hop_nilcheck_fp rfl) rfl rfl rfl rfl pre0 rfl rfl rfl (k':=23) rfl ?_
  first
  | refine hd_g 64 20 61 true _ (fun hb=>hop_fa fd_26_4 rfl) rfl rfl rfl rfl pre0 rfl rfl rfl (k':=24) rfl ?_
  | refine hd_g 64 20 61 true _ (fun hb=>hop_fa_fp fd_26_4 rfl (by first | exact Nat.le_of_ble_eq_true rfl | (simp at hb;first | omega | (dsimp only;omega) | (simp <;> omega)) | omega | (dsimp only;omega))) rfl rfl rfl rfl pre0 rfl rfl rfl (k':=24) rfl ?_
  first
  | refine hd_g 65 20 61 true _ (fun hb=>hol_load ty_3 rfl (by first | exact Nat.le_of_ble_eq_true rfl | (simp at hb;first | omega | (dsimp only;omega) | (simp <;> omega)) | omega | (dsimp only;omega)) (by first | exact Nat.le_of_ble_eq_true rfl | (simp at hb;first | omega | (dsimp only;omega) | (simp <;> omega)) | omega | (dsimp only;omega)) (fun h=>(by first | rfl | cases h))) rfl rfl rfl rfl (pre1 rfl) rfl rfl rfl (k':=25) rfl ?_
  | refine hd_g 65 20 61 true _ (fun hb=>hop_load_fp ty_3 rfl (by first | exact Nat.le_of_ble_eq_true rfl | (simp at hb;first | omega | (dsimp only;omega) | (simp <;> omega)) | omega | (dsimp only;omega)) (fun h=>(by first | rfl | cases h))) rfl rfl rfl rfl pre0 rfl rfl rfl (k':=25) rfl ?_
  refine hd_g 66 20 61 true _ (fun hb=>hop_move rfl) rfl rfl rfl rfl pre0 rfl rfl rfl (k':=26) rfl ?_
  refine hd_g 67 20 61 true _ (fun hb=>hop_leq rfl rfl) rfl rfl rfl rfl pre0 rfl rfl rfl (k':=27) rfl ?_
  first
  | refine hd_p 68 (hstep_and _ _ rfl rfl rfl) rfl rfl rfl (k':=28) rfl ?_
  | refine hd_p 68 (hstep_or _ _ rfl rfl rfl) rfl rfl rfl (k':=28) rfl ?_
  | refine hd_p 68 (hstep_pick _ _ _ _ rfl rfl rfl (fun _=>.refl _) (fun _=>.refl _)) rfl rfl rfl (k':=28) rfl ?_
  refine d0 29 (hop_assign rfl) ?_
  refine hd_nilU kr kr (by rfl) (by simp only [dropUn,slots];exact rfl) (c':=c+51) rfl ?_
  refine h12 _<|hw_ret<|hq_then_ret<|hq_block_ret<|hq_block_ret<|hq_then_ret<|hq_block_ret<|hq_then_ret<|hq_block_ret<|hq_then_ret ?_
  refine hf_retR1 ok hX RetS.one rfl (rval_tmp rfl) [] rfl pre0 (()) (trivial) (by rfl) (by rfl) ((by rw [hkv];exact .fz _ _ (.imm _))) ?_
  exact ⟨⟨_,rfl,(okz_sh rfl rfl (by rw [hkv]) rfl rfl)⟩,⟨⟨_,rfl,(okz_st (fz_agg10 fzc fzc fzc fzc fzc fzc fzc fzc (by exact fz_toks s.sl) (by exact fz_mkss s.sets)))⟩,⟨⟨_,rfl,(by rw [hkv];exact okz_st (fz_agg10 fzc fzc fzc fzc fzc fzc fzc fzc (by exact fz_toks o.sl) (by exact fz_mkss o.sets)))⟩,⟨⟨_,rfl,(okz_rtN rfl rfl rfl rfl rfl)⟩,⟨⟨_,rfl,okz_mps⟩,trivial⟩⟩⟩⟩⟩
 have hr0:=hc0;(try simp only [hcs,Int.reduceToNat] at hc0)
 refine hw_skip<|h8 _<|hw_seq fun Nh13 h13=>srg fun N h14=>?_
 refine s0 hqi ?_
 refine sa<|snl h14 ?_
 refine wc (fun hc1=>?_) (fun hc1=>?_)
 ·have hr1:=hc1;(try simp only [hcs,Int.reduceToNat] at hc1)
  have hkv:kindV (routeV L []) s o e bad=(decide (e > o.f),o,bad):=(by unfold kindV;rw [if_neg om,if_pos om])
  refine hw_exit ?_
  refine hq_then_exit<|hq_then_exit ?_
  refine hq_block_on rfl ?_
  refine hq_then_exit<|hq_block_here<|hq_block<|h5 _<|hw_seq fun Nh15 h15=>srg fun N h16=>sm<|sm ?_
  first
  | refine hq_ 71 (hop_nilcheck_pt rfl) rfl rfl pre0 rfl rfl ?_
  | refine hq_ 71 (hop_nilcheck_fp rfl) rfl rfl pre0 rfl rfl ?_
  first
  | refine hq_ 72 (hop_fa fd_26_1 rfl) rfl rfl pre0 rfl rfl ?_
  | refine hq_ 72 (hop_fa_fp fd_26_1 rfl (by first | exact Nat.le_of_ble_eq_true rfl | omega | (dsimp only;omega) | (simp <;> omega))) rfl rfl pre0 rfl rfl ?_
  first
  | refine hq_ 73 (HOp.val (v':=intV o.f) (hol_load ty_3 rfl (by first | exact Nat.le_of_ble_eq_true rfl | omega | (dsimp only;omega) | (simp <;> omega)) (by first | exact Nat.le_of_ble_eq_true rfl | omega | (dsimp only;omega) | (simp <;> omega)) (fun h=>(by first | rfl | cases h))) (rfl)) rfl rfl (pre1 rfl) rfl rfl ?_
  | refine hq_ 73 (HOp.val (v':=intV o.f) (hop_load_fp ty_3 rfl (by first | exact Nat.le_of_ble_eq_true rfl | omega | (dsimp only;omega) | (simp <;> omega)) (fun h=>(by first | rfl | cases h))) (rfl)) rfl rfl pre0 rfl rfl ?_
  refine s0 (hop_gtr rfl rfl) ?_
  refine sa<|snl h16<|hw_ret<|hq_then_ret<|hq_block_ret<|hq_then_ret<|hq_block_ret<|hq_then_ret ?_
  refine hf_retR1 ok hX RetS.one rfl (rval_tmp rfl) [] rfl pre0 (()) (trivial) (by rfl) (by rfl) ((by rw [hkv];exact .fz _ _ (.imm _))) ?_
  exact ⟨⟨_,rfl,(okz_sh rfl rfl (by rw [hkv]) rfl rfl)⟩,⟨⟨_,rfl,(okz_st (fz_agg10 fzc fzc fzc fzc fzc fzc fzc fzc (by exact fz_toks s.sl) (by exact fz_mkss s.sets)))⟩,⟨⟨_,rfl,(by rw [hkv];exact okz_st (fz_agg10 fzc fzc fzc fzc fzc fzc fzc fzc (by exact fz_toks o.sl) (by exact fz_mkss o.sets)))⟩,⟨⟨_,rfl,(okz_rtN rfl rfl rfl rfl rfl)⟩,⟨⟨_,rfl,okz_mps⟩,trivial⟩⟩⟩⟩⟩
 have hr1:=hc1;(try simp only [hcs,Int.reduceToNat] at hc1)
 refine hw_skip<|h13 _<|hw_seq fun Nh17 h17=>srg fun N h18=>?_
 refine s0 hqi ?_
 refine sa<|snl h18 ?_
 refine wc (fun hc2=>?_) (fun hc2=>?_)
 ·have hr2:=hc2;(try simp only [hcs,Int.reduceToNat] at hc2)
  have hkv:kindV (routeV L []) s o e bad=(decide (e > o.f),o,bad):=(by unfold kindV;rw [if_neg om,if_pos om])
  refine hw_exit ?_
  refine hq_then_exit<|hq_then_exit ?_
  refine hq_block_on rfl ?_
  refine hq_then_exit ?_
  refine hq_block_on rfl ?_
  refine hq_block_here<|h5 _<|hw_seq fun Nh19 h19=>srg fun N h20=>sm<|sm ?_
  first
  | refine hq_ 71 (hop_nilcheck_pt rfl) rfl rfl pre0 rfl rfl ?_
  | refine hq_ 71 (hop_nilcheck_fp rfl) rfl rfl pre0 rfl rfl ?_
  first
  | refine hq_ 72 (hop_fa fd_26_1 rfl) rfl rfl pre0 rfl rfl ?_
  | refine hq_ 72 (hop_fa_fp fd_26_1 rfl (by first | exact Nat.le_of_ble_eq_true rfl | omega | (dsimp only;omega) | (simp <;> omega))) rfl rfl pre0 rfl rfl ?_
  first
  | refine hq_ 73 (HOp.val (v':=intV o.f) (hol_load ty_3 rfl (by first | exact Nat.le_of_ble_eq_true rfl | omega | (dsimp only;omega) | (simp <;> omega)) (by first | exact Nat.le_of_ble_eq_true rfl | omega | (dsimp only;omega) | (simp <;> omega)) (fun h=>(by first | rfl | cases h))) (rfl)) rfl rfl (pre1 rfl) rfl rfl ?_
  | refine hq_ 73 (HOp.val (v':=intV o.f) (hop_load_fp ty_3 rfl (by first | exact Nat.le_of_ble_eq_true rfl | omega | (dsimp only;omega) | (simp <;> omega)) (fun h=>(by first | rfl | cases h))) (rfl)) rfl rfl pre0 rfl rfl ?_
  refine s0 (hop_gtr rfl rfl) ?_
  refine sa<|snl h20<|hw_ret<|hq_then_ret<|hq_block_ret<|hq_then_ret<|hq_block_ret<|hq_then_ret ?_
  refine hf_retR1 ok hX RetS.one rfl (rval_tmp rfl) [] rfl pre0 (()) (trivial) (by rfl) (by rfl) ((by rw [hkv];exact .fz _ _ (.imm _))) ?_
  exact ⟨⟨_,rfl,(okz_sh rfl rfl (by rw [hkv]) rfl rfl)⟩,⟨⟨_,rfl,(okz_st (fz_agg10 fzc fzc fzc fzc fzc fzc fzc fzc (by exact fz_toks s.sl) (by exact fz_mkss s.sets)))⟩,⟨⟨_,rfl,(by rw [hkv];exact okz_st (fz_agg10 fzc fzc fzc fzc fzc fzc fzc fzc (by exact fz_toks o.sl) (by exact fz_mkss o.sets)))⟩,⟨⟨_,rfl,(okz_rtN rfl rfl rfl rfl rfl)⟩,⟨⟨_,rfl,okz_mps⟩,trivial⟩⟩⟩⟩⟩
 have hr2:=hc2;(try simp only [hcs,Int.reduceToNat] at hc2)
 refine hw_skip<|h17 _<|srg fun N h21=>?_
 refine s0 hqi ?_
 refine sa<|snl h21 ?_
 refine wc (fun hc3=>?_) (fun hc3=>?_)
 ·have hr3:=hc3;(try simp only [hcs,Int.reduceToNat] at hc3)
  have k5:s.k=5:=hc3;have hkv:kindV (routeV L []) s o e bad=((rowI (routeV L []) s.f o.f (s.t - s.f).toNat 0 bad).1,o.mv o.f (o.f+s.t - s.f) o.gf o.gt,(rowI (routeV L []) s.f o.f (s.t - s.f).toNat 0 bad).2):=(by unfold kindV;rw [if_neg om,if_neg om,if_pos k5])
  refine hw_exit ?_
  refine hq_then_exit ?_
  refine hq_block_on rfl ?_
  refine hq_then_exit ?_
  refine hq_block_on rfl ?_
  refine hq_block_on rfl ?_
  refine hq_then_exit<|hq_block_here<|h4 _<|hw_seq fun Nh22 h22=>hw_seq fun Nh23 h23=>hd_start ?_
  refine dm 1 ?_
  refine dm 2 ?_
  first
  | refine hd_q 77 (hop_nilcheck_pt rfl) rfl rfl pre0 rfl rfl (k':=3) rfl ?_
  | refine hd_q 77 (hop_nilcheck_fp rfl) rfl rfl pre0 rfl rfl (k':=3) rfl ?_
  first
  | refine hd_q 78 (hop_fa fd_26_1 rfl) rfl rfl pre0 rfl rfl (k':=4) rfl ?_
  | refine hd_q 78 (hop_fa_fp fd_26_1 rfl (by first | exact Nat.le_of_ble_eq_true rfl | omega | (dsimp only;omega) | (simp <;> omega))) rfl rfl pre0 rfl rfl (k':=4) rfl ?_
  first
  | refine hd_q 79 (HOp.val (v':=intV o.f) (hol_load ty_3 rfl (by first | exact Nat.le_of_ble_eq_true rfl | omega | (dsimp only;omega) | (simp <;> omega)) (by first | exact Nat.le_of_ble_eq_true rfl | omega | (dsimp only;omega) | (simp <;> omega)) (fun h=>(by first | rfl | cases h))) (rfl)) rfl rfl (pre1 rfl) rfl rfl (k':=5) rfl ?_
  | refine hd_q 79 (HOp.val (v':=intV o.f) (hop_load_fp ty_3 rfl (by first | exact Nat.le_of_ble_eq_true rfl | omega | (dsimp only;omega) | (simp <;> omega)) (fun h=>(by first | rfl | cases h))) (rfl)) rfl rfl pre0 rfl rfl (k':=5) rfl ?_
  refine dm 6 ?_
  first
  | refine hd_q 81 (hop_nilcheck_pt rfl) rfl rfl pre0 rfl rfl (k':=7) rfl ?_
  | refine hd_q 81 (hop_nilcheck_fp rfl) rfl rfl pre0 rfl rfl (k':=7) rfl ?_
  first
  | refine hd_q 82 (hop_fa fd_26_2 rfl) rfl rfl pre0 rfl rfl (k':=8) rfl ?_
  | refine hd_q 82 (hop_fa_fp fd_26_2 rfl (by first | exact Nat.le_of_ble_eq_true rfl | omega | (dsimp only;omega) | (simp <;> omega))) rfl rfl pre0 rfl rfl (k':=8) rfl ?_
  first
  | refine hd_q 83 (HOp.val (v':=intV s.t) (hol_load ty_3 rfl (by first | exact Nat.le_of_ble_eq_true rfl | omega | (dsimp only;omega) | (simp <;> omega)) (by first | exact Nat.le_of_ble_eq_true rfl | omega | (dsimp only;omega) | (simp <;> omega)) (fun h=>(by first | rfl | cases h))) (rfl)) rfl rfl (pre1 rfl) rfl rfl (k':=9) rfl ?_
  | refine hd_q 83 (HOp.val (v':=intV s.t) (hop_load_fp ty_3 rfl (by first | exact Nat.le_of_ble_eq_true rfl | omega | (dsimp only;omega) | (simp <;> omega)) (fun h=>(by first | rfl | cases h))) (rfl)) rfl rfl pre0 rfl rfl (k':=9) rfl ?_
  first
  | refine hd_q 84 (hop_addi rfl rfl rfl (by first | exact Nat.le_of_ble_eq_true rfl | omega | (dsimp only;omega) | (simp <;> omega)) (by first | exact Nat.le_of_ble_eq_true rfl | omega | (dsimp only;omega) | (simp <;> omega))) rfl rfl pre0 rfl rfl (k':=10) rfl ?_
  | refine hd_q 84 (hop_add rfl rfl) rfl rfl pre0 rfl rfl (k':=10) rfl ?_
  refine dm 11 ?_
  first
  | refine hd_q 86 (hop_nilcheck_pt rfl) rfl rfl pre0 rfl rfl (k':=12) rfl ?_
  | refine hd_q 86 (hop_nilcheck_fp rfl) rfl rfl pre0 rfl rfl (k':=12) rfl ?_
  first
  | refine hd_q 87 (hop_fa fd_26_1 rfl) rfl rfl pre0 rfl rfl (k':=13) rfl ?_
  | refine hd_q 87 (hop_fa_fp fd_26_1 rfl (by first | exact Nat.le_of_ble_eq_true rfl | omega | (dsimp only;omega) | (simp <;> omega))) rfl rfl pre0 rfl rfl (k':=13) rfl ?_
  first
  | refine hd_q 88 (HOp.val (v':=intV s.f) (hol_load ty_3 rfl (by first | exact Nat.le_of_ble_eq_true rfl | omega | (dsimp only;omega) | (simp <;> omega)) (by first | exact Nat.le_of_ble_eq_true rfl | omega | (dsimp only;omega) | (simp <;> omega)) (fun h=>(by first | rfl | cases h))) (rfl)) rfl rfl (pre1 rfl) rfl rfl (k':=14) rfl ?_
  | refine hd_q 88 (HOp.val (v':=intV s.f) (hop_load_fp ty_3 rfl (by first | exact Nat.le_of_ble_eq_true rfl | omega | (dsimp only;omega) | (simp <;> omega)) (fun h=>(by first | rfl | cases h))) (rfl)) rfl rfl pre0 rfl rfl (k':=14) rfl ?_
  first
  | refine hd_q 89 (hop_subi rfl rfl rfl (by first | exact Nat.le_of_ble_eq_true rfl | omega | (dsimp only;omega) | (simp <;> omega)) (by first | exact Nat.le_of_ble_eq_true rfl | omega | (dsimp only;omega) | (simp <;> omega))) rfl rfl pre0 rfl rfl (k':=15) rfl ?_
  | refine hd_q 89 (hop_sub rfl rfl) rfl rfl pre0 rfl rfl (k':=15) rfl ?_
  first
  | refine hd_q 90 (hop_nilcheck_pt rfl) rfl rfl pre0 rfl rfl (k':=16) rfl ?_
  | refine hd_q 90 (hop_nilcheck_fp rfl) rfl rfl pre0 rfl rfl (k':=16) rfl ?_
  first
  | refine hd_q 91 (hop_fa fd_26_2 rfl) rfl rfl pre0 rfl rfl (k':=17) rfl ?_
  | refine hd_q 91 (hop_fa_fp fd_26_2 rfl (by first | exact Nat.le_of_ble_eq_true rfl | omega | (dsimp only;omega) | (simp <;> omega))) rfl rfl pre0 rfl rfl (k':=17) rfl ?_
  first
  | refine hd_s1 (hol_storeW ty_3 rfl rfl rfl rfl) rfl rfl (pre1 rfl) (k':=18) rfl ?_
  | refine hd_s1 (hol_store ty_3 rfl rfl rfl rfl (by first | exact Nat.le_of_ble_eq_true rfl | omega | (dsimp only;omega) | (simp <;> omega)) (by first | exact Nat.le_of_ble_eq_true rfl | omega | (dsimp only;omega) | (simp <;> omega)) (by first | exact Nat.le_of_ble_eq_true rfl | omega | (dsimp only;omega) | (simp <;> omega))) rfl rfl (pre1 rfl) (k':=18) rfl ?_
  refine hd_nil kr kr (c':=c+18) rfl ?_
  refine h23 _<|hw_seq fun Nh24 h24=>hd_start ?_
  refine dm 1 ?_
  refine dm 2 ?_
  first
  | refine hd_q 94 (hop_nilcheck_pt rfl) rfl rfl pre0 rfl rfl (k':=3) rfl ?_
  | refine hd_q 94 (hop_nilcheck_fp rfl) rfl rfl pre0 rfl rfl (k':=3) rfl ?_
  first
  | refine hd_q 95 (hol_load ty_26 rfl (by first | exact Nat.le_of_ble_eq_true rfl | omega | (dsimp only;omega) | (simp <;> omega)) (by first | exact Nat.le_of_ble_eq_true rfl | omega | (dsimp only;omega) | (simp <;> omega)) (fun h=>(by first | rfl | cases h))) rfl rfl (pre1 rfl) rfl rfl (k':=4) rfl ?_
  | refine hd_q 95 (hop_load_fp ty_26 rfl (by first | exact Nat.le_of_ble_eq_true rfl | omega | (dsimp only;omega) | (simp <;> omega)) (fun h=>(by first | rfl | cases h))) rfl rfl pre0 rfl rfl (k':=4) rfl ?_
  refine dm 5 ?_
  first
  | refine hd_q 97 (hop_nilcheck_pt rfl) rfl rfl pre0 rfl rfl (k':=6) rfl ?_
  | refine hd_q 97 (hop_nilcheck_fp rfl) rfl rfl pre0 rfl rfl (k':=6) rfl ?_
  first
  | refine hd_q 98 (hop_fa fd_26_1 rfl) rfl rfl pre0 rfl rfl (k':=7) rfl ?_
  | refine hd_q 98 (hop_fa_fp fd_26_1 rfl (by first | exact Nat.le_of_ble_eq_true rfl | omega | (dsimp only;omega) | (simp <;> omega))) rfl rfl pre0 rfl rfl (k':=7) rfl ?_
  first
  | refine hd_q 99 (HOp.val (v':=intV o.f) (hol_load ty_3 rfl (by first | exact Nat.le_of_ble_eq_true rfl | omega | (dsimp only;omega) | (simp <;> omega)) (by first | exact Nat.le_of_ble_eq_true rfl | omega | (dsimp only;omega) | (simp <;> omega)) (fun h=>(by first | rfl | cases h))) (rfl)) rfl rfl (pre1 rfl) rfl rfl (k':=8) rfl ?_
  | refine hd_q 99 (HOp.val (v':=intV o.f) (hop_load_fp ty_3 rfl (by first | exact Nat.le_of_ble_eq_true rfl | omega | (dsimp only;omega) | (simp <;> omega)) (fun h=>(by first | rfl | cases h))) (rfl)) rfl rfl pre0 rfl rfl (k':=8) rfl ?_
  refine hd_m 100 (hop_funD (xs:=[_,_,_]) (pre:=[(9201,_),(9101,_),(9102,_)]) (rowN_h gs bad g g2 L hL hok s o.f om hof) ((clocks_cons (id':=9201) (List.mem_cons_self ..) rfl (fun id o h=>⟨_,List.mem_cons_of_mem _ (hget_mem h),rfl⟩))) ⟨rfl,⟨rfl,⟨rfl,trivial⟩⟩⟩) rfl rfl (preC rfl (preC rfl (preC rfl pre0))) rfl rfl (k':=9) rfl ?_
  refine d0 10 (hop_assign rfl) ?_
  refine hd_nil kr kr (c':=c+28) rfl ?_
  refine h24 _<|hw_ret<|hq_then_ret<|hq_block_ret<|hq_then_ret ?_
  refine hf_retR1 ok hX RetS.one rfl (rval_tmp rfl) [] rfl pre0 (()) (trivial) (by rfl) (by rfl) ((by rw [hkv];exact .fz _ _ (.imm _))) ?_
  exact ⟨⟨_,rfl,(okz_sh rfl rfl (by rw [hkv]) rfl rfl)⟩,⟨⟨_,rfl,(okz_st (fz_agg10 fzc fzc fzc fzc fzc fzc fzc fzc (by exact fz_toks s.sl) (by exact fz_mkss s.sets)))⟩,⟨⟨_,rfl,(by rw [hkv];exact okz_st (fz_agg10 fzc fzc fzc fzc fzc fzc fzc fzc (by exact fz_toks o.sl) (by exact fz_mkss o.sets)))⟩,⟨⟨_,rfl,(okz_rtN rfl rfl rfl rfl rfl)⟩,⟨⟨_,rfl,okz_mps⟩,trivial⟩⟩⟩⟩⟩
 have hr3:=hc3;(try simp only [hcs,Int.reduceToNat] at hc3)
 have hkv:kindV (routeV L []) s o e bad=(true,o,bad):=(by unfold kindV;rw [if_neg om,if_neg om,if_neg om])
 refine hw_skip<|h7 _ ?_
 refine hw_exit ?_
 refine hq_block_on rfl ?_
 refine hq_then_exit ?_
 refine hq_block_on rfl ?_
 refine hq_block_on rfl ?_
 refine hq_then_exit ?_
 refine hq_block_on rfl ?_
 refine hq_then_exit<|hq_block_here<|h2 _<|srg fun N h25=>sa<|snl h25<|hw_ret ?_
 refine hf_retR1 ok hX RetS.one rfl (rval_tmp rfl) [] rfl pre0 (()) (trivial) (by rfl) (by rfl) ((by rw [hkv];exact .fz _ _ (.imm _))) ?_
 exact ⟨⟨_,rfl,(okz_sh rfl rfl (by rw [hkv]) rfl rfl)⟩,⟨⟨_,rfl,(okz_st (fz_agg10 fzc fzc fzc fzc fzc fzc fzc fzc (by exact fz_toks s.sl) (by exact fz_mkss s.sets)))⟩,⟨⟨_,rfl,(by rw [hkv];exact okz_st (fz_agg10 fzc fzc fzc fzc fzc fzc fzc fzc (by exact fz_toks o.sl) (by exact fz_mkss o.sets)))⟩,⟨⟨_,rfl,(okz_rtN rfl rfl rfl rfl rfl)⟩,⟨⟨_,rfl,okz_mps⟩,trivial⟩⟩⟩⟩⟩
theorem atM_h (gs:Nat) (bad:Bool) (g g2 g3:Nat) (L:List (List Rg)) (mir:List (Int×Int)) (hL:L.length≤100000) (hok:RtOk L mir) (pos side:Int):HFunD Try.prog 49 [.pt 9201 gs 0 0,intV pos,intV side] [(9201,shO gs g bad),(9101,rtO g (.os 9102 g2 0 L.length) (.mp 9103 g3)),(9102,mpsO g2 L),(9103,mirO g3 mir)] (plcH ((routeV L mir) pos side).1) [(9201,shO gs g (bad||decide (((routeV L mir) pos side).2≠0))),(9101,rtO g (.os 9102 g2 0 L.length) (.mp 9103 g3)),(9102,mpsO g2 L),(9103,mirO g3 mir)]:=by
 intro c
 refine hfun_of Try.func49 rfl kr _ _ _ _ rfl 31 rfl rfl (fun X ok hX=>?_)
 refine srg fun N h1=>?_
 refine hm_1 6 (hop_alloc (id:=6) (sz:=5) zc_100 rfl rfl omx omx) rfl rfl pre0 rfl rfl (c':=c+1) rfl ?_
 refine snl h1<|srg fun N h2=>sm ?_
 first
 | refine hq_ 11 (hop_nilcheck_pt rfl) rfl rfl pre0 rfl rfl ?_
 | refine hq_ 11 (hop_nilcheck_fp rfl) rfl rfl pre0 rfl rfl ?_
 first
 | refine hq_ 12 (hop_fa fd_99_0 rfl) rfl rfl pre0 rfl rfl ?_
 | refine hq_ 12 (hop_fa_fp fd_99_0 rfl (by first | exact Nat.le_of_ble_eq_true rfl | omega | (dsimp only;omega) | (simp <;> omega))) rfl rfl pre0 rfl rfl ?_
 first
 | refine hq_ 13 (hol_load ty_60 rfl (by first | exact Nat.le_of_ble_eq_true rfl | omega | (dsimp only;omega) | (simp <;> omega)) (by first | exact Nat.le_of_ble_eq_true rfl | omega | (dsimp only;omega) | (simp <;> omega)) (fun h=>(by first | rfl | cases h))) rfl rfl (pre1 rfl) rfl rfl ?_
 | refine hq_ 13 (hop_load_fp ty_60 rfl (by first | exact Nat.le_of_ble_eq_true rfl | omega | (dsimp only;omega) | (simp <;> omega)) (fun h=>(by first | rfl | cases h))) rfl rfl pre0 rfl rfl ?_
 refine sm<|sm ?_
 refine hf_callBR 16 (xs:=[_,_]) (pre:=[(9101,_),(9102,_),(9103,_)]) (tellM_h g g2 g3 L mir hL hok pos side _) rfl ⟨rfl,⟨rfl,trivial⟩⟩ (preC rfl (preC rfl (preC rfl pre0))) rfl rfl (fun x1 c1 hx1=>?_)
 (try dsimp only)
 refine sm ?_
 refine s0 hex ?_
 refine s0 hex ?_
 refine hm_1 7 (hop_alloc (id:=7) (sz:=5) zc_100 rfl rfl omx omx) rfl rfl pre0 rfl rfl (c':=c1+1) rfl ?_
 first
 | refine hm_s1 (hol_storeW ty_100 rfl rfl rfl rfl) rfl rfl (pre1 rfl) (c':=c1+2) rfl ?_
 | refine hm_s1 (hol_store ty_100 rfl rfl rfl rfl (by first | exact Nat.le_of_ble_eq_true rfl | omega | (dsimp only;omega) | (simp <;> omega)) (by first | exact Nat.le_of_ble_eq_true rfl | omega | (dsimp only;omega) | (simp <;> omega)) (by first | exact Nat.le_of_ble_eq_true rfl | omega | (dsimp only;omega) | (simp <;> omega))) rfl rfl (pre1 rfl) (c':=c1+2) rfl ?_
 refine sa<|snl h2<|srg fun N h3=>sm<|sm ?_
 first
 | refine hq_ 21 (hop_nilcheck_pt rfl) rfl rfl pre0 rfl rfl ?_
 | refine hq_ 21 (hop_nilcheck_fp rfl) rfl rfl pre0 rfl rfl ?_
 first
 | refine hq_ 22 (hop_fa fd_99_1 rfl) rfl rfl pre0 rfl rfl ?_
 | refine hq_ 22 (hop_fa_fp fd_99_1 rfl (by first | exact Nat.le_of_ble_eq_true rfl | omega | (dsimp only;omega) | (simp <;> omega))) rfl rfl pre0 rfl rfl ?_
 first
 | refine hq_ 23 (hol_load ty_4 rfl (by first | exact Nat.le_of_ble_eq_true rfl | omega | (dsimp only;omega) | (simp <;> omega)) (by first | exact Nat.le_of_ble_eq_true rfl | omega | (dsimp only;omega) | (simp <;> omega)) (fun h=>(by first | rfl | cases h))) rfl rfl (pre1 rfl) rfl rfl ?_
 | refine hq_ 23 (hop_load_fp ty_4 rfl (by first | exact Nat.le_of_ble_eq_true rfl | omega | (dsimp only;omega) | (simp <;> omega)) (fun h=>(by first | rfl | cases h))) rfl rfl pre0 rfl rfl ?_
 refine sm ?_
 first
 | refine stg 24 (fun hb=>hop_move rfl) rfl rfl rfl rfl rfl ?_
 | refine sth 24 (fun hb=>hop_move rfl) rfl rfl rfl rfl rfl ?_
 first
 | refine stg 24 (fun hb=>hop_neq rfl rfl) rfl rfl rfl rfl rfl ?_
 | refine sth 24 (fun hb=>hop_neq rfl rfl) rfl rfl rfl rfl rfl ?_
 first
 | refine hq_p 27 (hstep_and _ _ rfl rfl rfl) rfl rfl rfl ?_
 | refine hq_p 27 (hstep_or _ _ rfl rfl rfl) rfl rfl rfl ?_
 | refine hq_p 27 (hstep_ite _ _ _ rfl rfl rfl) rfl rfl rfl ?_
 | refine hq_p 27 (hstep_pick _ _ _ _ rfl rfl rfl (fun _=>.refl _) (fun _=>.refl _)) rfl rfl rfl ?_
 first
 | refine hq_ 28 (hop_nilcheck_pt rfl) rfl rfl pre0 rfl rfl ?_
 | refine hq_ 28 (hop_nilcheck_fp rfl) rfl rfl pre0 rfl rfl ?_
 first
 | refine hq_ 29 (hop_fa fd_99_1 rfl) rfl rfl pre0 rfl rfl ?_
 | refine hq_ 29 (hop_fa_fp fd_99_1 rfl (by first | exact Nat.le_of_ble_eq_true rfl | omega | (dsimp only;omega) | (simp <;> omega))) rfl rfl pre0 rfl rfl ?_
 first
 | refine hm_s1 (hol_storeW ty_4 rfl rfl rfl rfl) rfl rfl (pre1 rfl) (c':=c1+3) rfl ?_
 | refine hm_s1 (hol_store ty_4 rfl rfl rfl rfl (by first | exact Nat.le_of_ble_eq_true rfl | omega | (dsimp only;omega) | (simp <;> omega)) (by first | exact Nat.le_of_ble_eq_true rfl | omega | (dsimp only;omega) | (simp <;> omega)) (by first | exact Nat.le_of_ble_eq_true rfl | omega | (dsimp only;omega) | (simp <;> omega))) rfl rfl (pre1 rfl) (c':=c1+3) rfl ?_
 refine nu ?_
 refine h3 _<|srg fun N h4=>?_
 first
 | refine hq_ 30 (hol_load ty_100 rfl (by first | exact Nat.le_of_ble_eq_true rfl | omega | (dsimp only;omega) | (simp <;> omega)) (by first | exact Nat.le_of_ble_eq_true rfl | omega | (dsimp only;omega) | (simp <;> omega)) (fun h=>(by first | rfl | cases h))) rfl rfl (pre1 rfl) rfl rfl ?_
 | refine hq_ 30 (hop_load_fp ty_100 rfl (by first | exact Nat.le_of_ble_eq_true rfl | omega | (dsimp only;omega) | (simp <;> omega)) (fun h=>(by first | rfl | cases h))) rfl rfl pre0 rfl rfl ?_
 first
 | refine hm_s1 (hol_storeW ty_100 rfl rfl rfl rfl) rfl rfl (pre1 rfl) (c':=c1+4) rfl ?_
 | refine hm_s1 (hol_store ty_100 rfl rfl rfl rfl (by first | exact Nat.le_of_ble_eq_true rfl | omega | (dsimp only;omega) | (simp <;> omega)) (by first | exact Nat.le_of_ble_eq_true rfl | omega | (dsimp only;omega) | (simp <;> omega)) (by first | exact Nat.le_of_ble_eq_true rfl | omega | (dsimp only;omega) | (simp <;> omega))) rfl rfl (pre1 rfl) (c':=c1+4) rfl ?_
 refine snl h4<|hw_ret ?_
 refine hf_retR1 ok hX RetS.one rfl (rvl_cell rfl rfl ty_100 rqc rfl rfl) [] rfl pre0 (()) (trivial) (by rfl) (by rfl) ((.fz _ _ (fz_plc (by exact j5i rfl rfl rfl rfl rfl)))) ?_
 exact ⟨⟨_,rfl,(okz_sh rfl rfl (by rw [bne_dec]) rfl rfl)⟩,⟨⟨_,rfl,(okz_rtM rfl rfl rfl rfl rfl rfl rfl)⟩,⟨⟨_,rfl,okz_mps⟩,⟨⟨_,rfl,okz_map⟩,trivial⟩⟩⟩⟩
theorem rowM_h (gs:Nat) (bad:Bool) (g g2 g3:Nat) (L:List (List Rg)) (mir:List (Int×Int)) (hL:L.length≤100000) (hok:RtOk L mir) (s:St) (fr:Int) (hx:0≤s.f∧s.f≤s.t∧s.t≤1073741824) (hfr:-4398046511104≤fr∧fr≤4398046511104):HFunD Try.prog 63 [.pt 9201 gs 0 0,stV s,intV fr] [(9201,shO gs g bad),(9101,rtO g (.os 9102 g2 0 L.length) (.mp 9103 g3)),(9102,mpsO g2 L),(9103,mirO g3 mir)] (boolV (rowI (routeV L mir) s.f fr (s.t - s.f).toNat 0 bad).1) [(9201,shO gs g (rowI (routeV L mir) s.f fr (s.t - s.f).toNat 0 bad).2),(9101,rtO g (.os 9102 g2 0 L.length) (.mp 9103 g3)),(9102,mpsO g2 L),(9103,mirO g3 mir)]:=by
 intro c
 refine hfun_of Try.func63 rfl kr _ _ _ _ rfl 34 rfl rfl (fun X ok hX=>?_)
 refine srg fun N h1=>?_
 refine hm_1 4 (hop_box (id:=4) (sz:=10) rfl rfl rfl omx omx) rfl rfl pre0 rfl rfl (c':=c+1) rfl ?_
 refine sa<|snl h1<|hw_seq fun Nh2 h2=>hw_seq fun Nh3 h3=>?_
 let c0:=c
 refine hw_region ?_
 first
 | refine hq_ 9 (hop_fa fd_26_2 rfl) rfl rfl pre0 rfl rfl ?_
 | refine hq_ 9 (hop_fa_fp fd_26_2 rfl (by first | exact Nat.le_of_ble_eq_true rfl | omega | (dsimp only;omega) | (simp <;> omega))) rfl rfl pre0 rfl rfl ?_
 first
 | refine hq_ 10 (HOp.val (v':=intV s.t) (hol_load ty_3 rfl (by first | exact Nat.le_of_ble_eq_true rfl | omega | (dsimp only;omega) | (simp <;> omega)) (by first | exact Nat.le_of_ble_eq_true rfl | omega | (dsimp only;omega) | (simp <;> omega)) (fun h=>(by first | rfl | cases h))) (rfl)) rfl rfl (pre1 rfl) rfl rfl ?_
 | refine hq_ 10 (HOp.val (v':=intV s.t) (hop_load_fp ty_3 rfl (by first | exact Nat.le_of_ble_eq_true rfl | omega | (dsimp only;omega) | (simp <;> omega)) (fun h=>(by first | rfl | cases h))) (rfl)) rfl rfl pre0 rfl rfl ?_
 first
 | refine hq_ 11 (hop_fa fd_26_1 rfl) rfl rfl pre0 rfl rfl ?_
 | refine hq_ 11 (hop_fa_fp fd_26_1 rfl (by first | exact Nat.le_of_ble_eq_true rfl | omega | (dsimp only;omega) | (simp <;> omega))) rfl rfl pre0 rfl rfl ?_
 first
 | refine hq_ 12 (HOp.val (v':=intV s.f) (hol_load ty_3 rfl (by first | exact Nat.le_of_ble_eq_true rfl | omega | (dsimp only;omega) | (simp <;> omega)) (by first | exact Nat.le_of_ble_eq_true rfl | omega | (dsimp only;omega) | (simp <;> omega)) (fun h=>(by first | rfl | cases h))) (rfl)) rfl rfl (pre1 rfl) rfl rfl ?_
 | refine hq_ 12 (HOp.val (v':=intV s.f) (hop_load_fp ty_3 rfl (by first | exact Nat.le_of_ble_eq_true rfl | omega | (dsimp only;omega) | (simp <;> omega)) (fun h=>(by first | rfl | cases h))) (rfl)) rfl rfl pre0 rfl rfl ?_
 first
 | refine hq_ 13 (hop_subi rfl rfl rfl (by first | exact Nat.le_of_ble_eq_true rfl | omega | (dsimp only;omega) | (simp <;> omega)) (by first | exact Nat.le_of_ble_eq_true rfl | omega | (dsimp only;omega) | (simp <;> omega))) rfl rfl pre0 rfl rfl ?_
 | refine hq_ 13 (hop_sub rfl rfl) rfl rfl pre0 rfl rfl ?_
 refine sm<|snl h3<|hw_block ?_
 refine hw_loopc (α:=Nat×Bool) (fun x c=>⟨34,[(0,.v (.pt 9201 gs 0 0)),(2,.v (intV fr)),(4,.v (.pt 4 c0 0 0)),(13,.v (intV (s.t - s.f))),(14,.v (intV (x.1:Int)))],[(4,stO c0 s),(9201,shO gs g x.2),(9101,rtO g (.os 9102 g2 0 L.length) (.mp 9103 g3)),(9102,mpsO g2 L),(9103,mirO g3 mir)],c⟩) (fun x=>x.1≤(s.t - s.f).toNat∧rowI (routeV L mir) s.f fr ((s.t - s.f).toNat - x.1) x.1 x.2=rowI (routeV L mir) s.f fr (s.t - s.f).toNat 0 bad) (fun x=>(s.t - s.f).toNat - x.1) ((0,bad)) (by exact ⟨Nat.zero_le _,rfl⟩) (hsub_of rfl (Nat.le_refl _) tsa hsa) (fun x c hx NhL4 hL4=>?_)
 revert hx hL4;obtain ⟨i,b⟩:=x;intro hx hL4;dsimp only at hx hL4 ⊢
 obtain ⟨hil,hgo⟩:=hx
 refine srg fun N h5=>?_
 refine s0 hli ?_
 refine snl h5<|hw_seq fun Nh6 h6=>?_
 refine wc (fun hc0=>?_) (fun hc0=>?_)
 ·have hr0:=hc0;(try simp only [hcs,Int.reduceToNat] at hc0)
  have hlt:i < (s.t - s.f).toNat:=om
  refine hw_skip<|h6 _<|hw_seq fun Nh7 h7=>hw_block<|srg fun N h8=>sm<|sa<|snl h8<|srg fun N h9=>sm ?_
  first
  | refine hq_ 18 (hop_fa fd_26_1 rfl) rfl rfl pre0 rfl rfl ?_
  | refine hq_ 18 (hop_fa_fp fd_26_1 rfl (by first | exact Nat.le_of_ble_eq_true rfl | omega | (dsimp only;omega) | (simp <;> omega))) rfl rfl pre0 rfl rfl ?_
  first
  | refine hq_ 19 (HOp.val (v':=intV s.f) (hol_load ty_3 rfl (by first | exact Nat.le_of_ble_eq_true rfl | omega | (dsimp only;omega) | (simp <;> omega)) (by first | exact Nat.le_of_ble_eq_true rfl | omega | (dsimp only;omega) | (simp <;> omega)) (fun h=>(by first | rfl | cases h))) (rfl)) rfl rfl (pre1 rfl) rfl rfl ?_
  | refine hq_ 19 (HOp.val (v':=intV s.f) (hop_load_fp ty_3 rfl (by first | exact Nat.le_of_ble_eq_true rfl | omega | (dsimp only;omega) | (simp <;> omega)) (fun h=>(by first | rfl | cases h))) (rfl)) rfl rfl pre0 rfl rfl ?_
  refine sm ?_
  first
  | refine hq_ 21 (hop_addi rfl rfl rfl (by first | exact Nat.le_of_ble_eq_true rfl | omega | (dsimp only;omega) | (simp <;> omega)) (by first | exact Nat.le_of_ble_eq_true rfl | omega | (dsimp only;omega) | (simp <;> omega))) rfl rfl pre0 rfl rfl ?_
  | refine hq_ 21 (hop_add rfl rfl) rfl rfl pre0 rfl rfl ?_
  refine hf_callR 22 (xs:=[_,_,_]) (pre:=[(9201,_),(9101,_),(9102,_),(9103,_)]) (atM_h gs b g g2 g3 L mir hL hok (s.f+i) 1 _) ⟨rfl,⟨rfl,⟨rfl,trivial⟩⟩⟩ (preC rfl (preC rfl (preC rfl (preC rfl pre0)))) rfl rfl (fun x1 c1 hx1=>?_)
  (try dsimp only)
  refine hm_1 8 (hop_alloc (id:=8) (sz:=5) zc_100 rfl rfl omx omx) rfl rfl pre0 rfl rfl (c':=c1+1) rfl ?_
  first
  | refine hm_s1 (hol_storeW ty_100 rfl rfl rfl rfl) rfl rfl (pre1 rfl) (c':=c1+2) rfl ?_
  | refine hm_s1 (hol_store ty_100 rfl rfl rfl rfl (by first | exact Nat.le_of_ble_eq_true rfl | omega | (dsimp only;omega) | (simp <;> omega)) (by first | exact Nat.le_of_ble_eq_true rfl | omega | (dsimp only;omega) | (simp <;> omega)) (by first | exact Nat.le_of_ble_eq_true rfl | omega | (dsimp only;omega) | (simp <;> omega))) rfl rfl (pre1 rfl) (c':=c1+2) rfl ?_
  refine snl h9<|srg fun N h10=>?_
  first
  | refine hq_ 23 (hop_fa fd_100_1 rfl) rfl rfl pre0 rfl rfl ?_
  | refine hq_ 23 (hop_fa_fp fd_100_1 rfl (by first | exact Nat.le_of_ble_eq_true rfl | omega | (dsimp only;omega) | (simp <;> omega))) rfl rfl pre0 rfl rfl ?_
  first
  | refine hq_ 24 (HOp.val (v':=boolV ((routeV L mir) (s.f+i) 1).1.gone) (hol_load ty_4 rfl (by first | exact Nat.le_of_ble_eq_true rfl | omega | (dsimp only;omega) | (simp <;> omega)) (by first | exact Nat.le_of_ble_eq_true rfl | omega | (dsimp only;omega) | (simp <;> omega)) (fun h=>(by first | rfl | cases h))) (rfl)) rfl rfl (pre1 rfl) rfl rfl ?_
  | refine hq_ 24 (HOp.val (v':=boolV ((routeV L mir) (s.f+i) 1).1.gone) (hop_load_fp ty_4 rfl (by first | exact Nat.le_of_ble_eq_true rfl | omega | (dsimp only;omega) | (simp <;> omega)) (fun h=>(by first | rfl | cases h))) (rfl)) rfl rfl pre0 rfl rfl ?_
  refine sm ?_
  first
  | refine stg 25 (fun hb=>hop_fa fd_100_0 rfl) rfl rfl rfl rfl rfl ?_
  | refine sth 25 (fun hb=>hop_fa fd_100_0 rfl) rfl rfl rfl rfl rfl ?_
  | refine stg 25 (fun hb=>hop_fa_fp fd_100_0 rfl (by first | exact Nat.le_of_ble_eq_true rfl | (simp at hb;first | omega | (dsimp only;omega) | (simp <;> omega)) | omega | (dsimp only;omega))) rfl rfl rfl rfl rfl ?_
  | refine sth 25 (fun hb=>hop_fa_fp fd_100_0 rfl (by first | exact Nat.le_of_ble_eq_true rfl | (simp at hb;first | omega | (dsimp only;omega) | (simp <;> omega)) | omega | (dsimp only;omega))) rfl rfl rfl rfl rfl ?_
  first
  | refine hq_g 27 2 25 false _ (fun hb=>HOp.val (v':=intV ((routeV L mir) (s.f+i) 1).1.pos) (hol_load ty_3 rfl (by first | exact Nat.le_of_ble_eq_true rfl | (simp at hb;first | omega | (dsimp only;omega) | (simp <;> omega)) | omega | (dsimp only;omega)) (by first | exact Nat.le_of_ble_eq_true rfl | (simp at hb;first | omega | (dsimp only;omega) | (simp <;> omega)) | omega | (dsimp only;omega)) (fun h=>(by first | rfl | cases h))) (rfl)) rfl rfl rfl rfl (pre1 rfl) rfl rfl rfl ?_
  | refine hq_g2 27 2 25 _ _ false _ (fun hb=>HOp.val (v':=intV ((routeV L mir) (s.f+i) 1).1.pos) (hol_load ty_3 rfl (by first | exact Nat.le_of_ble_eq_true rfl | (simp at hb;first | omega | (dsimp only;omega) | (simp <;> omega)) | omega | (dsimp only;omega)) (by first | exact Nat.le_of_ble_eq_true rfl | (simp at hb;first | omega | (dsimp only;omega) | (simp <;> omega)) | omega | (dsimp only;omega)) (fun h=>(by first | rfl | cases h))) (rfl)) rfl rfl rfl rfl (pre1 rfl) rfl rfl rfl ?_
  | refine stg 25 (fun hb=>HOp.val (v':=intV ((routeV L mir) (s.f+i) 1).1.pos) (hop_load_fp ty_3 rfl (by first | exact Nat.le_of_ble_eq_true rfl | (simp at hb;first | omega | (dsimp only;omega) | (simp <;> omega)) | omega | (dsimp only;omega)) (fun h=>(by first | rfl | cases h))) (rfl)) rfl rfl rfl rfl rfl ?_
  | refine sth 25 (fun hb=>HOp.val (v':=intV ((routeV L mir) (s.f+i) 1).1.pos) (hop_load_fp ty_3 rfl (by first | exact Nat.le_of_ble_eq_true rfl | (simp at hb;first | omega | (dsimp only;omega) | (simp <;> omega)) | omega | (dsimp only;omega)) (fun h=>(by first | rfl | cases h))) (rfl)) rfl rfl rfl rfl rfl ?_
  first
  | refine stg 25 (fun hb=>hop_move rfl) rfl rfl rfl rfl rfl ?_
  | refine sth 25 (fun hb=>hop_move rfl) rfl rfl rfl rfl rfl ?_
  first
  | refine stg 25 (fun hb=>hop_move rfl) rfl rfl rfl rfl rfl ?_
  | refine sth 25 (fun hb=>hop_move rfl) rfl rfl rfl rfl rfl ?_
  first
  | refine stg 25 (fun hb=>hop_addi rfl rfl rfl (by first | exact Nat.le_of_ble_eq_true rfl | (simp at hb;first | omega | (dsimp only;omega) | (simp <;> omega)) | omega | (dsimp only;omega)) (by first | exact Nat.le_of_ble_eq_true rfl | (simp at hb;first | omega | (dsimp only;omega) | (simp <;> omega)) | omega | (dsimp only;omega))) rfl rfl rfl rfl rfl ?_
  | refine sth 25 (fun hb=>hop_addi rfl rfl rfl (by first | exact Nat.le_of_ble_eq_true rfl | (simp at hb;first | omega | (dsimp only;omega) | (simp <;> omega)) | omega | (dsimp only;omega)) (by first | exact Nat.le_of_ble_eq_true rfl | (simp at hb;first | omega | (dsimp only;omega) | (simp <;> omega)) | omega | (dsimp only;omega))) rfl rfl rfl rfl rfl ?_
  | refine stg 25 (fun hb=>hop_add rfl rfl) rfl rfl rfl rfl rfl ?_
  | refine sth 25 (fun hb=>hop_add rfl rfl) rfl rfl rfl rfl rfl ?_
  first
  | refine stg 25 (fun hb=>hop_neq rfl rfl) rfl rfl rfl rfl rfl ?_
  | refine sth 25 (fun hb=>hop_neq rfl rfl) rfl rfl rfl rfl rfl ?_
  first
  | refine hq_p 32 (hstep_and _ _ rfl rfl rfl) rfl rfl rfl ?_
  | refine hq_p 32 (hstep_or _ _ rfl rfl rfl) rfl rfl rfl ?_
  | refine hq_p 32 (hstep_ite _ _ _ rfl rfl rfl) rfl rfl rfl ?_
  | refine hq_p 32 (hstep_pick _ _ _ _ rfl rfl rfl (fun _=>.refl _) (fun _=>.refl _)) rfl rfl rfl ?_
  refine nu ?_
  refine h10 _ ?_
  refine wc (fun hc1=>?_) (fun hc1=>?_)
  ·have hr1:=hc1;(try simp only [hcs,Int.reduceToNat] at hc1)
   have hst:=rowI_stop (tl:=(routeV L mir)) (f:=s.f) (fr:=fr) (bad:=b) hlt (by simpa using hr1)
   refine srg fun N h11=>sa<|snl h11<|hw_ret<|hq_block_ret<|hq_then_ret<|hq_then_ret<|hq_block_ret<|hq_then_ret ?_
   refine hf_retR1 ok hX RetS.one rfl (rval_tmp rfl) [] rfl pre0 (()) (trivial) (by rfl) (by rfl) ((by rw [←hgo,hst];exact .fz _ _ (.imm _))) ?_
   exact ⟨⟨_,rfl,(okz_sh rfl rfl (by rw [←hgo,hst]) rfl rfl)⟩,⟨⟨_,rfl,(okz_rtM rfl rfl rfl rfl rfl rfl rfl)⟩,⟨⟨_,rfl,okz_mps⟩,⟨⟨_,rfl,okz_map⟩,trivial⟩⟩⟩⟩
  have hr1:=hc1;(try simp only [hcs,Int.reduceToNat] at hc1)
  have hst:=rowI_go (tl:=(routeV L mir)) (f:=s.f) (fr:=fr) (bad:=b) hlt (by simpa using hr1)
  refine hw_skip<|hq_block<|h7 _<|hw_region ?_
  first
  | refine hq_ 33 (hop_addi rfl rfl rfl (by first | exact Nat.le_of_ble_eq_true rfl | omega | (dsimp only;omega) | (simp <;> omega)) (by first | exact Nat.le_of_ble_eq_true rfl | omega | (dsimp only;omega) | (simp <;> omega))) rfl rfl pre0 rfl rfl ?_
  | refine hq_ 33 (hop_add rfl rfl) rfl rfl pre0 rfl rfl ?_
  refine sm<|hseq_nil ?_
  exact hL4 ((i+1,b||decide (((routeV L mir) (s.f+i) 1).2≠0))) _ _ (by (try dsimp only);exact ⟨by omega,by rw [←hgo,hst]⟩) (by (try dsimp only);omega) (hsub_of rfl (Nat.le_refl _) tsa hsa)
 have hr0:=hc0;(try simp only [hcs,Int.reduceToNat] at hc0)
 have hst:=rowI_end (tl:=(routeV L mir)) (f:=s.f) (fr:=fr) (bad:=b) (show (s.t - s.f).toNat≤i by omega)
 refine hw_exit ?_
 refine hq_then_exit<|hq_then_exit<|hq_block_here<|h2 _<|srg fun N h12=>sa<|snl h12<|hw_ret ?_
 refine hf_retR1 ok hX RetS.one rfl (rval_tmp rfl) [] rfl pre0 (()) (trivial) (by rfl) (by rfl) ((by rw [←hgo,hst];exact .fz _ _ (.imm _))) ?_
 exact ⟨⟨_,rfl,(okz_sh rfl rfl (by rw [←hgo,hst]) rfl rfl)⟩,⟨⟨_,rfl,(okz_rtM rfl rfl rfl rfl rfl rfl rfl)⟩,⟨⟨_,rfl,okz_mps⟩,⟨⟨_,rfl,okz_map⟩,trivial⟩⟩⟩⟩
theorem kindM_h (gs:Nat) (bad:Bool) (g g2 g3:Nat) (L:List (List Rg)) (mir:List (Int×Int)) (hL:L.length≤100000) (hok:RtOk L mir) (gx go:Nat) (s o:St) (e:Int) (hs:s.shape=true) (hof:-4398046511104≤o.f∧o.f≤4398046511104):HFunD Try.prog 51 [.pt 9201 gs 0 0,.pt 9301 gx 0 0,.pt 9302 go 0 0,intV e] [(9201,shO gs g bad),(9301,stO gx s),(9302,stO go o),(9101,rtO g (.os 9102 g2 0 L.length) (.mp 9103 g3)),(9102,mpsO g2 L),(9103,mirO g3 mir)] (boolV (kindV (routeV L mir) s o e bad).1) [(9201,shO gs g (kindV (routeV L mir) s o e bad).2.2),(9301,stO gx s),(9302,stO go (kindV (routeV L mir) s o e bad).2.1),(9101,rtO g (.os 9102 g2 0 L.length) (.mp 9103 g3)),(9102,mpsO g2 L),(9103,mirO g3 mir)]:=by
 obtain ⟨q1,q2,q3,q4,q5⟩:=shape_in hs
 intro c
 refine hfun_of Try.func51 rfl kr _ _ _ _ rfl 101 rfl rfl (fun X ok hX=>?_)
 refine srg fun N h1=>sa<|snl h1<|hw_seq fun Nh2 h2=>srg fun N h3=>sm ?_
 first
 | refine hq_ 10 (hop_nilcheck_pt rfl) rfl rfl pre0 rfl rfl ?_
 | refine hq_ 10 (hop_nilcheck_fp rfl) rfl rfl pre0 rfl rfl ?_
 first
 | refine hq_ 11 (hop_fa fd_26_0 rfl) rfl rfl pre0 rfl rfl ?_
 | refine hq_ 11 (hop_fa_fp fd_26_0 rfl (by first | exact Nat.le_of_ble_eq_true rfl | omega | (dsimp only;omega) | (simp <;> omega))) rfl rfl pre0 rfl rfl ?_
 first
 | refine hq_ 12 (HOp.val (v':=intV s.k) (hol_load ty_3 rfl (by first | exact Nat.le_of_ble_eq_true rfl | omega | (dsimp only;omega) | (simp <;> omega)) (by first | exact Nat.le_of_ble_eq_true rfl | omega | (dsimp only;omega) | (simp <;> omega)) (fun h=>(by first | rfl | cases h))) (rfl)) rfl rfl (pre1 rfl) rfl rfl ?_
 | refine hq_ 12 (HOp.val (v':=intV s.k) (hop_load_fp ty_3 rfl (by first | exact Nat.le_of_ble_eq_true rfl | omega | (dsimp only;omega) | (simp <;> omega)) (fun h=>(by first | rfl | cases h))) (rfl)) rfl rfl pre0 rfl rfl ?_
 refine snl h3<|hw_block<|hw_seq fun Nh4 h4=>hw_block<|hw_seq fun Nh5 h5=>hw_block<|hw_block<|hw_seq fun Nh6 h6=>hw_block<|hw_seq fun Nh7 h7=>hw_seq fun Nh8 h8=>srg fun N h9=>?_
 refine s0 hqi ?_
 refine sa<|snl h9 ?_
 refine wc (fun hc0=>?_) (fun hc0=>?_)
 ·have hr0:=hc0;(try simp only [hcs,Int.reduceToNat] at hc0)
  have k2:s.k=2:=hc0;have hg:=gap_in hs k2;have hkv:kindV (routeV L mir) s o e bad=(((decide (((routeV L mir) s.gf (-1)).1.pos≥o.f)&&decide (((routeV L mir) s.gf (-1)).1.pos≤((routeV L mir) s.gt 1).1.pos))&&decide (((routeV L mir) s.gt 1).1.pos≤e),o.mv o.f o.t ((routeV L mir) s.gf (-1)).1.pos ((routeV L mir) s.gt 1).1.pos,(bad||decide (((routeV L mir) s.gf (-1)).2≠0))||decide (((routeV L mir) s.gt 1).2≠0))):=if_pos k2
  refine hw_exit ?_
  refine hq_then_exit<|hq_then_exit<|hq_block_here<|h6 _<|hw_seq fun Nh10 h10=>hw_seq fun Nh11 h11=>hd_start ?_
  refine dm 1 ?_
  refine dm 2 ?_
  refine dm 3 ?_
  refine dm 4 ?_
  first
  | refine hd_q 25 (hop_nilcheck_pt rfl) rfl rfl pre0 rfl rfl (k':=5) rfl ?_
  | refine hd_q 25 (hop_nilcheck_fp rfl) rfl rfl pre0 rfl rfl (k':=5) rfl ?_
  first
  | refine hd_q 26 (hop_fa fd_26_3 rfl) rfl rfl pre0 rfl rfl (k':=6) rfl ?_
  | refine hd_q 26 (hop_fa_fp fd_26_3 rfl (by first | exact Nat.le_of_ble_eq_true rfl | omega | (dsimp only;omega) | (simp <;> omega))) rfl rfl pre0 rfl rfl (k':=6) rfl ?_
  first
  | refine hd_q 27 (HOp.val (v':=intV s.gf) (hol_load ty_3 rfl (by first | exact Nat.le_of_ble_eq_true rfl | omega | (dsimp only;omega) | (simp <;> omega)) (by first | exact Nat.le_of_ble_eq_true rfl | omega | (dsimp only;omega) | (simp <;> omega)) (fun h=>(by first | rfl | cases h))) (rfl)) rfl rfl (pre1 rfl) rfl rfl (k':=7) rfl ?_
  | refine hd_q 27 (HOp.val (v':=intV s.gf) (hop_load_fp ty_3 rfl (by first | exact Nat.le_of_ble_eq_true rfl | omega | (dsimp only;omega) | (simp <;> omega)) (fun h=>(by first | rfl | cases h))) (rfl)) rfl rfl pre0 rfl rfl (k':=7) rfl ?_
  refine hd_m 28 (hop_funD (xs:=[_,_,_]) (pre:=[(9201,_),(9101,_),(9102,_),(9103,_)]) (atM_h gs bad g g2 g3 L mir hL hok s.gf (-1)) ((clocks_cons (id':=9201) (List.mem_cons_self ..) rfl (fun id o h=>⟨_,List.mem_cons_of_mem _ (hget_mem h),rfl⟩))) ⟨rfl,⟨rfl,⟨rfl,trivial⟩⟩⟩) rfl rfl (preC rfl (preC rfl (preC rfl (preC rfl pre0)))) rfl rfl (k':=8) rfl ?_
  refine d0 9 (hop_field (T:=100) (fo:=0) kr rfl omx) ?_
  refine dm 10 ?_
  refine dm 11 ?_
  first
  | refine hd_q 32 (hop_nilcheck_pt rfl) rfl rfl pre0 rfl rfl (k':=12) rfl ?_
  | refine hd_q 32 (hop_nilcheck_fp rfl) rfl rfl pre0 rfl rfl (k':=12) rfl ?_
  first
  | refine hd_q 33 (hop_fa fd_26_4 rfl) rfl rfl pre0 rfl rfl (k':=13) rfl ?_
  | refine hd_q 33 (hop_fa_fp fd_26_4 rfl (by first | exact Nat.le_of_ble_eq_true rfl | omega | (dsimp only;omega) | (simp <;> omega))) rfl rfl pre0 rfl rfl (k':=13) rfl ?_
  first
  | refine hd_q 34 (HOp.val (v':=intV s.gt) (hol_load ty_3 rfl (by first | exact Nat.le_of_ble_eq_true rfl | omega | (dsimp only;omega) | (simp <;> omega)) (by first | exact Nat.le_of_ble_eq_true rfl | omega | (dsimp only;omega) | (simp <;> omega)) (fun h=>(by first | rfl | cases h))) (rfl)) rfl rfl (pre1 rfl) rfl rfl (k':=14) rfl ?_
  | refine hd_q 34 (HOp.val (v':=intV s.gt) (hop_load_fp ty_3 rfl (by first | exact Nat.le_of_ble_eq_true rfl | omega | (dsimp only;omega) | (simp <;> omega)) (fun h=>(by first | rfl | cases h))) (rfl)) rfl rfl pre0 rfl rfl (k':=14) rfl ?_
  refine hd_m 35 (hop_funD (xs:=[_,_,_]) (pre:=[(9201,_),(9101,_),(9102,_),(9103,_)]) (atM_h gs (bad||decide (((routeV L mir) s.gf (-1)).2≠0)) g g2 g3 L mir hL hok s.gt 1) ((clocks_cons (id':=9201) (List.mem_cons_self ..) rfl (fun id o h=>⟨_,List.mem_cons_of_mem _ (hget_mem h),rfl⟩))) ⟨rfl,⟨rfl,⟨rfl,trivial⟩⟩⟩) rfl rfl (preC rfl (preC rfl (preC rfl (preC rfl pre0)))) rfl rfl (k':=15) rfl ?_
  refine d0 16 (hop_field (T:=100) (fo:=0) kr rfl omx) ?_
  first
  | refine hd_q 37 (hop_nilcheck_pt rfl) rfl rfl pre0 rfl rfl (k':=17) rfl ?_
  | refine hd_q 37 (hop_nilcheck_fp rfl) rfl rfl pre0 rfl rfl (k':=17) rfl ?_
  first
  | refine hd_q 38 (hop_fa fd_26_3 rfl) rfl rfl pre0 rfl rfl (k':=18) rfl ?_
  | refine hd_q 38 (hop_fa_fp fd_26_3 rfl (by first | exact Nat.le_of_ble_eq_true rfl | omega | (dsimp only;omega) | (simp <;> omega))) rfl rfl pre0 rfl rfl (k':=18) rfl ?_
  first
  | refine hd_s1 (hol_storeW ty_3 rfl rfl rfl rfl) rfl rfl (pre1 rfl) (k':=19) rfl ?_
  | refine hd_s1 (hol_store ty_3 rfl rfl rfl rfl (by first | exact Nat.le_of_ble_eq_true rfl | omega | (dsimp only;omega) | (simp <;> omega)) (by first | exact Nat.le_of_ble_eq_true rfl | omega | (dsimp only;omega) | (simp <;> omega)) (by first | exact Nat.le_of_ble_eq_true rfl | omega | (dsimp only;omega) | (simp <;> omega))) rfl rfl (pre1 rfl) (k':=19) rfl ?_
  first
  | refine hd_q 39 (hop_nilcheck_pt rfl) rfl rfl pre0 rfl rfl (k':=20) rfl ?_
  | refine hd_q 39 (hop_nilcheck_fp rfl) rfl rfl pre0 rfl rfl (k':=20) rfl ?_
  first
  | refine hd_q 40 (hop_fa fd_26_4 rfl) rfl rfl pre0 rfl rfl (k':=21) rfl ?_
  | refine hd_q 40 (hop_fa_fp fd_26_4 rfl (by first | exact Nat.le_of_ble_eq_true rfl | omega | (dsimp only;omega) | (simp <;> omega))) rfl rfl pre0 rfl rfl (k':=21) rfl ?_
  first
  | refine hd_s1 (hol_storeW ty_3 rfl rfl rfl rfl) rfl rfl (pre1 rfl) (k':=22) rfl ?_
  | refine hd_s1 (hol_store ty_3 rfl rfl rfl rfl (by first | exact Nat.le_of_ble_eq_true rfl | omega | (dsimp only;omega) | (simp <;> omega)) (by first | exact Nat.le_of_ble_eq_true rfl | omega | (dsimp only;omega) | (simp <;> omega)) (by first | exact Nat.le_of_ble_eq_true rfl | omega | (dsimp only;omega) | (simp <;> omega))) rfl rfl (pre1 rfl) (k':=22) rfl ?_
  refine hd_nil kr kr (c':=c+22) rfl ?_
  refine h11 _<|hw_seq fun Nh12 h12=>hd_start ?_
  refine dm 1 ?_
  first
  | refine hd_q 42 (hop_nilcheck_pt rfl) rfl rfl pre0 rfl rfl (k':=2) rfl ?_
  | refine hd_q 42 (hop_nilcheck_fp rfl) rfl rfl pre0 rfl rfl (k':=2) rfl ?_
  first
  | refine hd_q 43 (hop_fa fd_26_3 rfl) rfl rfl pre0 rfl rfl (k':=3) rfl ?_
  | refine hd_q 43 (hop_fa_fp fd_26_3 rfl (by first | exact Nat.le_of_ble_eq_true rfl | omega | (dsimp only;omega) | (simp <;> omega))) rfl rfl pre0 rfl rfl (k':=3) rfl ?_
  first
  | refine hd_q 44 (hol_load ty_3 rfl (by first | exact Nat.le_of_ble_eq_true rfl | omega | (dsimp only;omega) | (simp <;> omega)) (by first | exact Nat.le_of_ble_eq_true rfl | omega | (dsimp only;omega) | (simp <;> omega)) (fun h=>(by first | rfl | cases h))) rfl rfl (pre1 rfl) rfl rfl (k':=4) rfl ?_
  | refine hd_q 44 (hop_load_fp ty_3 rfl (by first | exact Nat.le_of_ble_eq_true rfl | omega | (dsimp only;omega) | (simp <;> omega)) (fun h=>(by first | rfl | cases h))) rfl rfl pre0 rfl rfl (k':=4) rfl ?_
  refine dm 5 ?_
  first
  | refine hd_q 46 (hop_nilcheck_pt rfl) rfl rfl pre0 rfl rfl (k':=6) rfl ?_
  | refine hd_q 46 (hop_nilcheck_fp rfl) rfl rfl pre0 rfl rfl (k':=6) rfl ?_
  first
  | refine hd_q 47 (hop_fa fd_26_1 rfl) rfl rfl pre0 rfl rfl (k':=7) rfl ?_
  | refine hd_q 47 (hop_fa_fp fd_26_1 rfl (by first | exact Nat.le_of_ble_eq_true rfl | omega | (dsimp only;omega) | (simp <;> omega))) rfl rfl pre0 rfl rfl (k':=7) rfl ?_
  first
  | refine hd_q 48 (hol_load ty_3 rfl (by first | exact Nat.le_of_ble_eq_true rfl | omega | (dsimp only;omega) | (simp <;> omega)) (by first | exact Nat.le_of_ble_eq_true rfl | omega | (dsimp only;omega) | (simp <;> omega)) (fun h=>(by first | rfl | cases h))) rfl rfl (pre1 rfl) rfl rfl (k':=8) rfl ?_
  | refine hd_q 48 (hop_load_fp ty_3 rfl (by first | exact Nat.le_of_ble_eq_true rfl | omega | (dsimp only;omega) | (simp <;> omega)) (fun h=>(by first | rfl | cases h))) rfl rfl pre0 rfl rfl (k':=8) rfl ?_
  refine d0 9 (hop_geq rfl rfl) ?_
  refine dm 10 ?_
  refine hd_g 51 9 50 true _ (fun hb=>hop_move rfl) rfl rfl rfl rfl pre0 rfl rfl rfl (k':=11) rfl ?_
  first
  | refine hd_g 52 9 50 true _ (fun hb=>hop_nilcheck_pt rfl) rfl rfl rfl rfl pre0 rfl rfl rfl (k':=12) rfl ?_
  | refine hd_g 52 9 50 true _ (fun hb=>hop_nilcheck_fp rfl) rfl rfl rfl rfl pre0 rfl rfl rfl (k':=12) rfl ?_
  first
  | refine hd_g 53 9 50 true _ (fun hb=>hop_fa fd_26_3 rfl) rfl rfl rfl rfl pre0 rfl rfl rfl (k':=13) rfl ?_
  | refine hd_g 53 9 50 true _ (fun hb=>hop_fa_fp fd_26_3 rfl (by first | exact Nat.le_of_ble_eq_true rfl | (simp at hb;first | omega | (dsimp only;omega) | (simp <;> omega)) | omega | (dsimp only;omega))) rfl rfl rfl rfl pre0 rfl rfl rfl (k':=13) rfl ?_
  first
  | refine hd_g 54 9 50 true _ (fun hb=>hol_load ty_3 rfl (by first | exact Nat.le_of_ble_eq_true rfl | (simp at hb;first | omega | (dsimp only;omega) | (simp <;> omega)) | omega | (dsimp only;omega)) (by first | exact Nat.le_of_ble_eq_true rfl | (simp at hb;first | omega | (dsimp only;omega) | (simp <;> omega)) | omega | (dsimp only;omega)) (fun h=>(by first | rfl | cases h))) rfl rfl rfl rfl (pre1 rfl) rfl rfl rfl (k':=14) rfl ?_
  | refine hd_g 54 9 50 true _ (fun hb=>hop_load_fp ty_3 rfl (by first | exact Nat.le_of_ble_eq_true rfl | (simp at hb;first | omega | (dsimp only;omega) | (simp <;> omega)) | omega | (dsimp only;omega)) (fun h=>(by first | rfl | cases h))) rfl rfl rfl rfl pre0 rfl rfl rfl (k':=14) rfl ?_
  refine hd_g 55 9 50 true _ (fun hb=>hop_move rfl) rfl rfl rfl rfl pre0 rfl rfl rfl (k':=15) rfl ?_
  first
  | refine hd_g 56 9 50 true _ (fun hb=>hop_nilcheck_pt rfl) rfl rfl rfl rfl pre0 rfl rfl rfl (k':=16) rfl ?_
  | refine hd_g 56 9 50 true _ (fun hb=>hop_nilcheck_fp rfl) rfl rfl rfl rfl pre0 rfl rfl rfl (k':=16) rfl ?_
  first
  | refine hd_g 57 9 50 true _ (fun hb=>hop_fa fd_26_4 rfl) rfl rfl rfl rfl pre0 rfl rfl rfl (k':=17) rfl ?_
  | refine hd_g 57 9 50 true _ (fun hb=>hop_fa_fp fd_26_4 rfl (by first | exact Nat.le_of_ble_eq_true rfl | (simp at hb;first | omega | (dsimp only;omega) | (simp <;> omega)) | omega | (dsimp only;omega))) rfl rfl rfl rfl pre0 rfl rfl rfl (k':=17) rfl ?_
  first
  | refine hd_g 58 9 50 true _ (fun hb=>hol_load ty_3 rfl (by first | exact Nat.le_of_ble_eq_true rfl | (simp at hb;first | omega | (dsimp only;omega) | (simp <;> omega)) | omega | (dsimp only;omega)) (by first | exact Nat.le_of_ble_eq_true rfl | (simp at hb;first | omega | (dsimp only;omega) | (simp <;> omega)) | omega | (dsimp only;omega)) (fun h=>(by first | rfl | cases h))) rfl rfl rfl rfl (pre1 rfl) rfl rfl rfl (k':=18) rfl ?_
  | refine hd_g 58 9 50 true _ (fun hb=>hop_load_fp ty_3 rfl (by first | exact Nat.le_of_ble_eq_true rfl | (simp at hb;first | omega | (dsimp only;omega) | (simp <;> omega)) | omega | (dsimp only;omega)) (fun h=>(by first | rfl | cases h))) rfl rfl rfl rfl pre0 rfl rfl rfl (k':=18) rfl ?_
  refine hd_g 59 9 50 true _ (fun hb=>hop_leq rfl rfl) rfl rfl rfl rfl pre0 rfl rfl rfl (k':=19) rfl ?_
  first
  | refine hd_p 60 (hstep_and _ _ rfl rfl rfl) rfl rfl rfl (k':=20) rfl ?_
  | refine hd_p 60 (hstep_or _ _ rfl rfl rfl) rfl rfl rfl (k':=20) rfl ?_
  | refine hd_p 60 (hstep_pick _ _ _ _ rfl rfl rfl (fun _=>.refl _) (fun _=>.refl _)) rfl rfl rfl (k':=20) rfl ?_
  refine dm 21 ?_
  refine hd_g 62 20 61 true _ (fun hb=>hop_move rfl) rfl rfl rfl rfl pre0 rfl rfl rfl (k':=22) rfl ?_
  first
  | refine hd_g 63 20 61 true _ (fun hb=>hop_nilcheck_pt rfl) rfl rfl rfl rfl pre0 rfl rfl rfl (k':=23) rfl ?_
  | refine hd_g 63 20 61 true _ (fun hb=>hop_nilcheck_fp rfl) rfl rfl rfl rfl pre0 rfl rfl rfl (k':=23) rfl ?_
  first
  | refine hd_g 64 20 61 true _ (fun hb=>hop_fa fd_26_4 rfl) rfl rfl rfl rfl pre0 rfl rfl rfl (k':=24) rfl ?_
  | refine hd_g 64 20 61 true _ (fun hb=>hop_fa_fp fd_26_4 rfl (by first | exact Nat.le_of_ble_eq_true rfl | (simp at hb;first | omega | (dsimp only;omega) | (simp <;> omega)) | omega | (dsimp only;omega))) rfl rfl rfl rfl pre0 rfl rfl rfl (k':=24) rfl ?_
  first
  | refine hd_g 65 20 61 true _ (fun hb=>hol_load ty_3 rfl (by first | exact Nat.le_of_ble_eq_true rfl | (simp at hb;first | omega | (dsimp only;omega) | (simp <;> omega)) | omega | (dsimp only;omega)) (by first | exact Nat.le_of_ble_eq_true rfl | (simp at hb;first | omega | (dsimp only;omega) | (simp <;> omega)) | omega | (dsimp only;omega)) (fun h=>(by first | rfl | cases h))) rfl rfl rfl rfl (pre1 rfl) rfl rfl rfl (k':=25) rfl ?_
  | refine hd_g 65 20 61 true _ (fun hb=>hop_load_fp ty_3 rfl (by first | exact Nat.le_of_ble_eq_true rfl | (simp at hb;first | omega | (dsimp only;omega) | (simp <;> omega)) | omega | (dsimp only;omega)) (fun h=>(by first | rfl | cases h))) rfl rfl rfl rfl pre0 rfl rfl rfl (k':=25) rfl ?_
  refine hd_g 66 20 61 true _ (fun hb=>hop_move rfl) rfl rfl rfl rfl pre0 rfl rfl rfl (k':=26) rfl ?_
  refine hd_g 67 20 61 true _ (fun hb=>hop_leq rfl rfl) rfl rfl rfl rfl pre0 rfl rfl rfl (k':=27) rfl ?_
  first
  | refine hd_p 68 (hstep_and _ _ rfl rfl rfl) rfl rfl rfl (k':=28) rfl ?_
  | refine hd_p 68 (hstep_or _ _ rfl rfl rfl) rfl rfl rfl (k':=28) rfl ?_
  | refine hd_p 68 (hstep_pick _ _ _ _ rfl rfl rfl (fun _=>.refl _) (fun _=>.refl _)) rfl rfl rfl (k':=28) rfl ?_
  refine d0 29 (hop_assign rfl) ?_
  refine hd_nilU kr kr (by rfl) (by simp only [dropUn,slots];exact rfl) (c':=c+51) rfl ?_
  refine h12 _<|hw_ret<|hq_then_ret<|hq_block_ret<|hq_block_ret<|hq_then_ret<|hq_block_ret<|hq_then_ret<|hq_block_ret<|hq_then_ret ?_
  refine hf_retR1 ok hX RetS.one rfl (rval_tmp rfl) [] rfl pre0 (()) (trivial) (by rfl) (by rfl) ((by rw [hkv];exact .fz _ _ (.imm _))) ?_
  exact ⟨⟨_,rfl,(okz_sh rfl rfl (by rw [hkv]) rfl rfl)⟩,⟨⟨_,rfl,(okz_st (fz_agg10 fzc fzc fzc fzc fzc fzc fzc fzc (by exact fz_toks s.sl) (by exact fz_mkss s.sets)))⟩,⟨⟨_,rfl,(by rw [hkv];exact okz_st (fz_agg10 fzc fzc fzc fzc fzc fzc fzc fzc (by exact fz_toks o.sl) (by exact fz_mkss o.sets)))⟩,⟨⟨_,rfl,(okz_rtM rfl rfl rfl rfl rfl rfl rfl)⟩,⟨⟨_,rfl,okz_mps⟩,⟨⟨_,rfl,okz_map⟩,trivial⟩⟩⟩⟩⟩⟩
 have hr0:=hc0;(try simp only [hcs,Int.reduceToNat] at hc0)
 refine hw_skip<|h8 _<|hw_seq fun Nh13 h13=>srg fun N h14=>?_
 refine s0 hqi ?_
 refine sa<|snl h14 ?_
 refine wc (fun hc1=>?_) (fun hc1=>?_)
 ·have hr1:=hc1;(try simp only [hcs,Int.reduceToNat] at hc1)
  have hkv:kindV (routeV L mir) s o e bad=(decide (e > o.f),o,bad):=(by unfold kindV;rw [if_neg om,if_pos om])
  refine hw_exit ?_
  refine hq_then_exit<|hq_then_exit ?_
  refine hq_block_on rfl ?_
  refine hq_then_exit<|hq_block_here<|hq_block<|h5 _<|hw_seq fun Nh15 h15=>srg fun N h16=>sm<|sm ?_
  first
  | refine hq_ 71 (hop_nilcheck_pt rfl) rfl rfl pre0 rfl rfl ?_
  | refine hq_ 71 (hop_nilcheck_fp rfl) rfl rfl pre0 rfl rfl ?_
  first
  | refine hq_ 72 (hop_fa fd_26_1 rfl) rfl rfl pre0 rfl rfl ?_
  | refine hq_ 72 (hop_fa_fp fd_26_1 rfl (by first | exact Nat.le_of_ble_eq_true rfl | omega | (dsimp only;omega) | (simp <;> omega))) rfl rfl pre0 rfl rfl ?_
  first
  | refine hq_ 73 (HOp.val (v':=intV o.f) (hol_load ty_3 rfl (by first | exact Nat.le_of_ble_eq_true rfl | omega | (dsimp only;omega) | (simp <;> omega)) (by first | exact Nat.le_of_ble_eq_true rfl | omega | (dsimp only;omega) | (simp <;> omega)) (fun h=>(by first | rfl | cases h))) (rfl)) rfl rfl (pre1 rfl) rfl rfl ?_
  | refine hq_ 73 (HOp.val (v':=intV o.f) (hop_load_fp ty_3 rfl (by first | exact Nat.le_of_ble_eq_true rfl | omega | (dsimp only;omega) | (simp <;> omega)) (fun h=>(by first | rfl | cases h))) (rfl)) rfl rfl pre0 rfl rfl ?_
  refine s0 (hop_gtr rfl rfl) ?_
  refine sa<|snl h16<|hw_ret<|hq_then_ret<|hq_block_ret<|hq_then_ret<|hq_block_ret<|hq_then_ret ?_
  refine hf_retR1 ok hX RetS.one rfl (rval_tmp rfl) [] rfl pre0 (()) (trivial) (by rfl) (by rfl) ((by rw [hkv];exact .fz _ _ (.imm _))) ?_
  exact ⟨⟨_,rfl,(okz_sh rfl rfl (by rw [hkv]) rfl rfl)⟩,⟨⟨_,rfl,(okz_st (fz_agg10 fzc fzc fzc fzc fzc fzc fzc fzc (by exact fz_toks s.sl) (by exact fz_mkss s.sets)))⟩,⟨⟨_,rfl,(by rw [hkv];exact okz_st (fz_agg10 fzc fzc fzc fzc fzc fzc fzc fzc (by exact fz_toks o.sl) (by exact fz_mkss o.sets)))⟩,⟨⟨_,rfl,(okz_rtM rfl rfl rfl rfl rfl rfl rfl)⟩,⟨⟨_,rfl,okz_mps⟩,⟨⟨_,rfl,okz_map⟩,trivial⟩⟩⟩⟩⟩⟩
 have hr1:=hc1;(try simp only [hcs,Int.reduceToNat] at hc1)
 refine hw_skip<|h13 _<|hw_seq fun Nh17 h17=>srg fun N h18=>?_
 refine s0 hqi ?_
 refine sa<|snl h18 ?_
 refine wc (fun hc2=>?_) (fun hc2=>?_)
 ·have hr2:=hc2;(try simp only [hcs,Int.reduceToNat] at hc2)
  have hkv:kindV (routeV L mir) s o e bad=(decide (e > o.f),o,bad):=(by unfold kindV;rw [if_neg om,if_pos om])
  refine hw_exit ?_
  refine hq_then_exit<|hq_then_exit ?_
  refine hq_block_on rfl ?_
  refine hq_then_exit ?_
  refine hq_block_on rfl ?_
  refine hq_block_here<|h5 _<|hw_seq fun Nh19 h19=>srg fun N h20=>sm<|sm ?_
  first
  | refine hq_ 71 (hop_nilcheck_pt rfl) rfl rfl pre0 rfl rfl ?_
  | refine hq_ 71 (hop_nilcheck_fp rfl) rfl rfl pre0 rfl rfl ?_
  first
  | refine hq_ 72 (hop_fa fd_26_1 rfl) rfl rfl pre0 rfl rfl ?_
  | refine hq_ 72 (hop_fa_fp fd_26_1 rfl (by first | exact Nat.le_of_ble_eq_true rfl | omega | (dsimp only;omega) | (simp <;> omega))) rfl rfl pre0 rfl rfl ?_
  first
  | refine hq_ 73 (HOp.val (v':=intV o.f) (hol_load ty_3 rfl (by first | exact Nat.le_of_ble_eq_true rfl | omega | (dsimp only;omega) | (simp <;> omega)) (by first | exact Nat.le_of_ble_eq_true rfl | omega | (dsimp only;omega) | (simp <;> omega)) (fun h=>(by first | rfl | cases h))) (rfl)) rfl rfl (pre1 rfl) rfl rfl ?_
  | refine hq_ 73 (HOp.val (v':=intV o.f) (hop_load_fp ty_3 rfl (by first | exact Nat.le_of_ble_eq_true rfl | omega | (dsimp only;omega) | (simp <;> omega)) (fun h=>(by first | rfl | cases h))) (rfl)) rfl rfl pre0 rfl rfl ?_
  refine s0 (hop_gtr rfl rfl) ?_
  refine sa<|snl h20<|hw_ret<|hq_then_ret<|hq_block_ret<|hq_then_ret<|hq_block_ret<|hq_then_ret ?_
  refine hf_retR1 ok hX RetS.one rfl (rval_tmp rfl) [] rfl pre0 (()) (trivial) (by rfl) (by rfl) ((by rw [hkv];exact .fz _ _ (.imm _))) ?_
  exact ⟨⟨_,rfl,(okz_sh rfl rfl (by rw [hkv]) rfl rfl)⟩,⟨⟨_,rfl,(okz_st (fz_agg10 fzc fzc fzc fzc fzc fzc fzc fzc (by exact fz_toks s.sl) (by exact fz_mkss s.sets)))⟩,⟨⟨_,rfl,(by rw [hkv];exact okz_st (fz_agg10 fzc fzc fzc fzc fzc fzc fzc fzc (by exact fz_toks o.sl) (by exact fz_mkss o.sets)))⟩,⟨⟨_,rfl,(okz_rtM rfl rfl rfl rfl rfl rfl rfl)⟩,⟨⟨_,rfl,okz_mps⟩,⟨⟨_,rfl,okz_map⟩,trivial⟩⟩⟩⟩⟩⟩
 have hr2:=hc2;(try simp only [hcs,Int.reduceToNat] at hc2)
 refine hw_skip<|h17 _<|srg fun N h21=>?_
 refine s0 hqi ?_
 refine sa<|snl h21 ?_
 refine wc (fun hc3=>?_) (fun hc3=>?_)
 ·have hr3:=hc3;(try simp only [hcs,Int.reduceToNat] at hc3)
  have k5:s.k=5:=hc3;have hkv:kindV (routeV L mir) s o e bad=((rowI (routeV L mir) s.f o.f (s.t - s.f).toNat 0 bad).1,o.mv o.f (o.f+s.t - s.f) o.gf o.gt,(rowI (routeV L mir) s.f o.f (s.t - s.f).toNat 0 bad).2):=(by unfold kindV;rw [if_neg om,if_neg om,if_pos k5])
  refine hw_exit ?_
  refine hq_then_exit ?_
  refine hq_block_on rfl ?_
  refine hq_then_exit ?_
  refine hq_block_on rfl ?_
  refine hq_block_on rfl ?_
  refine hq_then_exit<|hq_block_here<|h4 _<|hw_seq fun Nh22 h22=>hw_seq fun Nh23 h23=>hd_start ?_
  refine dm 1 ?_
  refine dm 2 ?_
  first
  | refine hd_q 77 (hop_nilcheck_pt rfl) rfl rfl pre0 rfl rfl (k':=3) rfl ?_
  | refine hd_q 77 (hop_nilcheck_fp rfl) rfl rfl pre0 rfl rfl (k':=3) rfl ?_
  first
  | refine hd_q 78 (hop_fa fd_26_1 rfl) rfl rfl pre0 rfl rfl (k':=4) rfl ?_
  | refine hd_q 78 (hop_fa_fp fd_26_1 rfl (by first | exact Nat.le_of_ble_eq_true rfl | omega | (dsimp only;omega) | (simp <;> omega))) rfl rfl pre0 rfl rfl (k':=4) rfl ?_
  first
  | refine hd_q 79 (HOp.val (v':=intV o.f) (hol_load ty_3 rfl (by first | exact Nat.le_of_ble_eq_true rfl | omega | (dsimp only;omega) | (simp <;> omega)) (by first | exact Nat.le_of_ble_eq_true rfl | omega | (dsimp only;omega) | (simp <;> omega)) (fun h=>(by first | rfl | cases h))) (rfl)) rfl rfl (pre1 rfl) rfl rfl (k':=5) rfl ?_
  | refine hd_q 79 (HOp.val (v':=intV o.f) (hop_load_fp ty_3 rfl (by first | exact Nat.le_of_ble_eq_true rfl | omega | (dsimp only;omega) | (simp <;> omega)) (fun h=>(by first | rfl | cases h))) (rfl)) rfl rfl pre0 rfl rfl (k':=5) rfl ?_
  refine dm 6 ?_
  first
  | refine hd_q 81 (hop_nilcheck_pt rfl) rfl rfl pre0 rfl rfl (k':=7) rfl ?_
  | refine hd_q 81 (hop_nilcheck_fp rfl) rfl rfl pre0 rfl rfl (k':=7) rfl ?_
  first
  | refine hd_q 82 (hop_fa fd_26_2 rfl) rfl rfl pre0 rfl rfl (k':=8) rfl ?_
  | refine hd_q 82 (hop_fa_fp fd_26_2 rfl (by first | exact Nat.le_of_ble_eq_true rfl | omega | (dsimp only;omega) | (simp <;> omega))) rfl rfl pre0 rfl rfl (k':=8) rfl ?_
  first
  | refine hd_q 83 (HOp.val (v':=intV s.t) (hol_load ty_3 rfl (by first | exact Nat.le_of_ble_eq_true rfl | omega | (dsimp only;omega) | (simp <;> omega)) (by first | exact Nat.le_of_ble_eq_true rfl | omega | (dsimp only;omega) | (simp <;> omega)) (fun h=>(by first | rfl | cases h))) (rfl)) rfl rfl (pre1 rfl) rfl rfl (k':=9) rfl ?_
  | refine hd_q 83 (HOp.val (v':=intV s.t) (hop_load_fp ty_3 rfl (by first | exact Nat.le_of_ble_eq_true rfl | omega | (dsimp only;omega) | (simp <;> omega)) (fun h=>(by first | rfl | cases h))) (rfl)) rfl rfl pre0 rfl rfl (k':=9) rfl ?_
  first
  | refine hd_q 84 (hop_addi rfl rfl rfl (by first | exact Nat.le_of_ble_eq_true rfl | omega | (dsimp only;omega) | (simp <;> omega)) (by first | exact Nat.le_of_ble_eq_true rfl | omega | (dsimp only;omega) | (simp <;> omega))) rfl rfl pre0 rfl rfl (k':=10) rfl ?_
  | refine hd_q 84 (hop_add rfl rfl) rfl rfl pre0 rfl rfl (k':=10) rfl ?_
  refine dm 11 ?_
  first
  | refine hd_q 86 (hop_nilcheck_pt rfl) rfl rfl pre0 rfl rfl (k':=12) rfl ?_
  | refine hd_q 86 (hop_nilcheck_fp rfl) rfl rfl pre0 rfl rfl (k':=12) rfl ?_
  first
  | refine hd_q 87 (hop_fa fd_26_1 rfl) rfl rfl pre0 rfl rfl (k':=13) rfl ?_
  | refine hd_q 87 (hop_fa_fp fd_26_1 rfl (by first | exact Nat.le_of_ble_eq_true rfl | omega | (dsimp only;omega) | (simp <;> omega))) rfl rfl pre0 rfl rfl (k':=13) rfl ?_
  first
  | refine hd_q 88 (HOp.val (v':=intV s.f) (hol_load ty_3 rfl (by first | exact Nat.le_of_ble_eq_true rfl | omega | (dsimp only;omega) | (simp <;> omega)) (by first | exact Nat.le_of_ble_eq_true rfl | omega | (dsimp only;omega) | (simp <;> omega)) (fun h=>(by first | rfl | cases h))) (rfl)) rfl rfl (pre1 rfl) rfl rfl (k':=14) rfl ?_
  | refine hd_q 88 (HOp.val (v':=intV s.f) (hop_load_fp ty_3 rfl (by first | exact Nat.le_of_ble_eq_true rfl | omega | (dsimp only;omega) | (simp <;> omega)) (fun h=>(by first | rfl | cases h))) (rfl)) rfl rfl pre0 rfl rfl (k':=14) rfl ?_
  first
  | refine hd_q 89 (hop_subi rfl rfl rfl (by first | exact Nat.le_of_ble_eq_true rfl | omega | (dsimp only;omega) | (simp <;> omega)) (by first | exact Nat.le_of_ble_eq_true rfl | omega | (dsimp only;omega) | (simp <;> omega))) rfl rfl pre0 rfl rfl (k':=15) rfl ?_
  | refine hd_q 89 (hop_sub rfl rfl) rfl rfl pre0 rfl rfl (k':=15) rfl ?_
  first
  | refine hd_q 90 (hop_nilcheck_pt rfl) rfl rfl pre0 rfl rfl (k':=16) rfl ?_
  | refine hd_q 90 (hop_nilcheck_fp rfl) rfl rfl pre0 rfl rfl (k':=16) rfl ?_
  first
  | refine hd_q 91 (hop_fa fd_26_2 rfl) rfl rfl pre0 rfl rfl (k':=17) rfl ?_
  | refine hd_q 91 (hop_fa_fp fd_26_2 rfl (by first | exact Nat.le_of_ble_eq_true rfl | omega | (dsimp only;omega) | (simp <;> omega))) rfl rfl pre0 rfl rfl (k':=17) rfl ?_
  first
  | refine hd_s1 (hol_storeW ty_3 rfl rfl rfl rfl) rfl rfl (pre1 rfl) (k':=18) rfl ?_
  | refine hd_s1 (hol_store ty_3 rfl rfl rfl rfl (by first | exact Nat.le_of_ble_eq_true rfl | omega | (dsimp only;omega) | (simp <;> omega)) (by first | exact Nat.le_of_ble_eq_true rfl | omega | (dsimp only;omega) | (simp <;> omega)) (by first | exact Nat.le_of_ble_eq_true rfl | omega | (dsimp only;omega) | (simp <;> omega))) rfl rfl (pre1 rfl) (k':=18) rfl ?_
  refine hd_nil kr kr (c':=c+18) rfl ?_
  refine h23 _<|hw_seq fun Nh24 h24=>hd_start ?_
  refine dm 1 ?_
  refine dm 2 ?_
  first
  | refine hd_q 94 (hop_nilcheck_pt rfl) rfl rfl pre0 rfl rfl (k':=3) rfl ?_
  | refine hd_q 94 (hop_nilcheck_fp rfl) rfl rfl pre0 rfl rfl (k':=3) rfl ?_
  first
  | refine hd_q 95 (hol_load ty_26 rfl (by first | exact Nat.le_of_ble_eq_true rfl | omega | (dsimp only;omega) | (simp <;> omega)) (by first | exact Nat.le_of_ble_eq_true rfl | omega | (dsimp only;omega) | (simp <;> omega)) (fun h=>(by first | rfl | cases h))) rfl rfl (pre1 rfl) rfl rfl (k':=4) rfl ?_
  | refine hd_q 95 (hop_load_fp ty_26 rfl (by first | exact Nat.le_of_ble_eq_true rfl | omega | (dsimp only;omega) | (simp <;> omega)) (fun h=>(by first | rfl | cases h))) rfl rfl pre0 rfl rfl (k':=4) rfl ?_
  refine dm 5 ?_
  first
  | refine hd_q 97 (hop_nilcheck_pt rfl) rfl rfl pre0 rfl rfl (k':=6) rfl ?_
  | refine hd_q 97 (hop_nilcheck_fp rfl) rfl rfl pre0 rfl rfl (k':=6) rfl ?_
  first
  | refine hd_q 98 (hop_fa fd_26_1 rfl) rfl rfl pre0 rfl rfl (k':=7) rfl ?_
  | refine hd_q 98 (hop_fa_fp fd_26_1 rfl (by first | exact Nat.le_of_ble_eq_true rfl | omega | (dsimp only;omega) | (simp <;> omega))) rfl rfl pre0 rfl rfl (k':=7) rfl ?_
  first
  | refine hd_q 99 (HOp.val (v':=intV o.f) (hol_load ty_3 rfl (by first | exact Nat.le_of_ble_eq_true rfl | omega | (dsimp only;omega) | (simp <;> omega)) (by first | exact Nat.le_of_ble_eq_true rfl | omega | (dsimp only;omega) | (simp <;> omega)) (fun h=>(by first | rfl | cases h))) (rfl)) rfl rfl (pre1 rfl) rfl rfl (k':=8) rfl ?_
  | refine hd_q 99 (HOp.val (v':=intV o.f) (hop_load_fp ty_3 rfl (by first | exact Nat.le_of_ble_eq_true rfl | omega | (dsimp only;omega) | (simp <;> omega)) (fun h=>(by first | rfl | cases h))) (rfl)) rfl rfl pre0 rfl rfl (k':=8) rfl ?_
  refine hd_m 100 (hop_funD (xs:=[_,_,_]) (pre:=[(9201,_),(9101,_),(9102,_),(9103,_)]) (rowM_h gs bad g g2 g3 L mir hL hok s o.f om hof) ((clocks_cons (id':=9201) (List.mem_cons_self ..) rfl (fun id o h=>⟨_,List.mem_cons_of_mem _ (hget_mem h),rfl⟩))) ⟨rfl,⟨rfl,⟨rfl,trivial⟩⟩⟩) rfl rfl (preC rfl (preC rfl (preC rfl (preC rfl pre0)))) rfl rfl (k':=9) rfl ?_
  refine d0 10 (hop_assign rfl) ?_
  refine hd_nil kr kr (c':=c+28) rfl ?_
  refine h24 _<|hw_ret<|hq_then_ret<|hq_block_ret<|hq_then_ret ?_
  refine hf_retR1 ok hX RetS.one rfl (rval_tmp rfl) [] rfl pre0 (()) (trivial) (by rfl) (by rfl) ((by rw [hkv];exact .fz _ _ (.imm _))) ?_
  exact ⟨⟨_,rfl,(okz_sh rfl rfl (by rw [hkv]) rfl rfl)⟩,⟨⟨_,rfl,(okz_st (fz_agg10 fzc fzc fzc fzc fzc fzc fzc fzc (by exact fz_toks s.sl) (by exact fz_mkss s.sets)))⟩,⟨⟨_,rfl,(by rw [hkv];exact okz_st (fz_agg10 fzc fzc fzc fzc fzc fzc fzc fzc (by exact fz_toks o.sl) (by exact fz_mkss o.sets)))⟩,⟨⟨_,rfl,(okz_rtM rfl rfl rfl rfl rfl rfl rfl)⟩,⟨⟨_,rfl,okz_mps⟩,⟨⟨_,rfl,okz_map⟩,trivial⟩⟩⟩⟩⟩⟩
 have hr3:=hc3;(try simp only [hcs,Int.reduceToNat] at hc3)
 have hkv:kindV (routeV L mir) s o e bad=(true,o,bad):=(by unfold kindV;rw [if_neg om,if_neg om,if_neg om])
 refine hw_skip<|h7 _ ?_
 refine hw_exit ?_
 refine hq_block_on rfl ?_
 refine hq_then_exit ?_
 refine hq_block_on rfl ?_
 refine hq_block_on rfl ?_
 refine hq_then_exit ?_
 refine hq_block_on rfl ?_
 refine hq_then_exit<|hq_block_here<|h2 _<|srg fun N h25=>sa<|snl h25<|hw_ret ?_
 refine hf_retR1 ok hX RetS.one rfl (rval_tmp rfl) [] rfl pre0 (()) (trivial) (by rfl) (by rfl) ((by rw [hkv];exact .fz _ _ (.imm _))) ?_
 exact ⟨⟨_,rfl,(okz_sh rfl rfl (by rw [hkv]) rfl rfl)⟩,⟨⟨_,rfl,(okz_st (fz_agg10 fzc fzc fzc fzc fzc fzc fzc fzc (by exact fz_toks s.sl) (by exact fz_mkss s.sets)))⟩,⟨⟨_,rfl,(by rw [hkv];exact okz_st (fz_agg10 fzc fzc fzc fzc fzc fzc fzc fzc (by exact fz_toks o.sl) (by exact fz_mkss o.sets)))⟩,⟨⟨_,rfl,(okz_rtM rfl rfl rfl rfl rfl rfl rfl)⟩,⟨⟨_,rfl,okz_mps⟩,⟨⟨_,rfl,okz_map⟩,trivial⟩⟩⟩⟩⟩⟩
set_option maxHeartbeats 400000 in
theorem Clone_mks (A:Option Addr) (n c B:Nat) (l:List Mks) (w:World) (hn:l.length=n) (h:Sl w B 8 Mks.cells A l) (hB:B≤w.heap.size) (hl:n≤1000000000) :
    Calls Try.prog 50 #[.slice A n c] w (GivesSl 69 8 Mks.cells w l):=by
  have hq:=Lib.run_eql_slice_nil (P:=Try.prog) w 24 69 A n c 0 0 Try.underlying24
  cases A with
  | none =>
    have hl0:l=[]:=by
      rcases Nat.eq_zero_or_pos l.length with h0 | h0
      · exact List.eq_nil_of_length_eq_zero h0
      · obtain ⟨b,o,e,_⟩:=h.addr h0 (by omega);cases e
    subst hl0
    obtain rfl:0=n:=hn
    go_enter Try.func50,Try.ntmps50
    go_wp2
    go_ret
    exact GivesSl.of rfl rfl (Own.nil _ _ _ Mks.cells_length) (Below.refl _ _)
  | some a =>
    have HN:=Lib.hid hn;clear hn
    go_enter Try.func50,Try.ntmps50
    go_wp2_with (at_builtin;refine wpList_append_sl rfl _ _ _ rfl mksElem w.heap.size Mks.cells mks_one _ [] 0 rfl rfl (Own.empty _ _ Mks.cells_length (Nat.le_refl _)) B _ n _ l rfl HN.out (h.alloc hB _) (by omega) (le_alloc (Nat.le_refl _) _) ?_;intro A2 c2 w2 hown2 hg2 hat2)
    go_ret
    exact GivesSl.of HN.out rfl (by simpa using hown2) ((Own.empty _ _ Mks.cells_length (Nat.le_refl _)).below_grown ((Below.refl _ _).alloc (Nat.le_refl _) _) hg2 (Nat.le_refl _) (le_alloc (Nat.le_refl _) _))
set_option maxHeartbeats 2000000
theorem clont_h (l:List Tok) (hl:l.length≤1000000):HPure Try.prog 33 [toksV l] (toksV l):=by
 refine ⟨⟨_,_,Try.func33,rfl,by kernel_rfl⟩,fun w F vs hF hr hw=>?_⟩
 obtain ⟨v,rfl,hv⟩:=rep1 hr
 obtain ⟨A,c,rfl,hc,hm,hs⟩:=toks_of hv
 refine (Clone_tok A _ c _ l w rfl hs (Nat.le_refl _) (by omega)).mono fun en w' hg=>?_
 exact gives_pure hF tokF tokF_imm tok_one tok0 hg
theorem clonm_h (l:List Mks) (hl:l.length≤1000000):HPure Try.prog 50 [mkssV l] (mkssV l):=by
 refine ⟨⟨_,_,Try.func50,rfl,by kernel_rfl⟩,fun w F vs hF hr hw=>?_⟩
 obtain ⟨v,rfl,hv⟩:=rep1 hr
 obtain ⟨A,c,rfl,hc,hm,hs⟩:=mkss_of hv
 refine (Clone_mks A _ c _ l w rfl hs (Nat.le_refl _) (by omega)).mono fun en w' hg=>?_
 exact gives_pure hF mksF mksF_imm mks_one mks0 hg
theorem osub_st {g:Nat} {F:Nat→Nat→HV} {s:St} (h:∀ j,j < 10→Sb (F 0 j) (stF s j)):OSub ⟨g,1,10,26,0,F⟩ (stO g s):=OSub.of fun i j hi hj=>by
 obtain rfl:i=0:=by omega
 exact h j hj
theorem osub_sh0 {gs g:Nat} {b b':Bool} {F:Nat→Nat→HV} (h0:F 0 0=.bnd (.func 25) (.pt 9101 g 0 0)) (h1:F 0 1=boolV b) (hb:b=b'):OSub ⟨gs,1,2,99,0,F⟩ (shO gs g b'):=hb▸osub_sh h0 h1
theorem kV_len {tl:TF} {s:St}:(kV tl s).2.1.sl=s.sl∧(kV tl s).2.1.sets=s.sets:=by
 unfold kV kindV
 split
 ·exact ⟨rfl,rfl⟩
 ·split
  ·exact ⟨rfl,rfl⟩
  ·split <;> exact ⟨rfl,rfl⟩
theorem gone2_t {tl:TF} {s:St} (h:gone2 tl s):(((false||decide ((tl s.f 1).2≠0))||decide ((tl s.t (-1)).2≠0))||((tl s.f 1).1.ins&&(tl s.t (-1)).1.ins))=true:=by
 unfold gone2 at h;simpa using h
theorem gone2_f {tl:TF} {s:St} (h:¬ gone2 tl s):((false||decide ((tl s.f 1).2≠0))||decide ((tl s.t (-1)).2≠0))=false∧(false||((tl s.f 1).1.ins&&(tl s.t (-1)).1.ins))=false:=by
 unfold gone2 at h
 have h1:(tl s.f 1).2=0:=Classical.byContradiction fun e=>h (.inl (.inl e))
 have h2:(tl s.t (-1)).2=0:=Classical.byContradiction fun e=>h (.inl (.inr e))
 refine ⟨by simp [h1,h2],?_⟩
 cases e1:(tl s.f 1).1.ins <;> cases e2:(tl s.t (-1)).1.ins <;> first | rfl | exact absurd (.inr ⟨e1,e2⟩) h
theorem byN_h (g g2:Nat) (L:List (List Rg)) (hL:L.length≤100000) (hok:RtOk L []) (s:St) (l1:s.sl.length≤20000) (l2:s.sets.length≤20000):HFunD Try.prog 24 [stV s,.bnd (.func 25) (.pt 9101 g 0 0)] [(9101,rtO g (.os 9102 g2 0 L.length) (.imm (.map none))),(9102,mpsO g2 L)] (optV (byV (routeV L []) s)) [(9101,rtO g (.os 9102 g2 0 L.length) (.imm (.map none))),(9102,mpsO g2 L)]:=by
 intro c
 have htl:TlOk (routeV L []):=tlok_route hok
 refine hfun_of Try.func24 rfl kr _ _ _ _ rfl 79 rfl rfl (fun X ok hX=>?_)
 refine srg fun N h1=>?_
 refine hm_1 2 (hop_box (id:=9301) (sz:=10) rfl rfl rfl (by decide) (by decide)) rfl rfl pre0 rfl rfl (c':=c+1) rfl ?_
 refine hm_1 4 (hop_alloc (id:=4) (sz:=10) zc_26 rfl rfl omx omx) rfl rfl pre0 rfl rfl (c':=c+2) rfl ?_
 refine sa<|snl h1<|hw_seq fun Nh2 h2=>srg fun N h3=>sm ?_
 refine s0 (hop_eql_bn (fun f t b w=>by kernel_rfl) rfl rfl) ?_
 refine sm ?_
 first
 | refine hq_g 13 2 12 false _ (fun hb=>hol_load ty_26 rfl (by first | exact Nat.le_of_ble_eq_true rfl | (simp at hb;first | omega | (dsimp only;omega) | (simp <;> omega)) | omega | (dsimp only;omega)) (by first | exact Nat.le_of_ble_eq_true rfl | (simp at hb;first | omega | (dsimp only;omega) | (simp <;> omega)) | omega | (dsimp only;omega)) (fun h=>(by first | rfl | cases h))) rfl rfl rfl rfl (pre1 rfl) rfl rfl rfl ?_
 | refine hq_g2 13 2 12 _ _ false _ (fun hb=>hol_load ty_26 rfl (by first | exact Nat.le_of_ble_eq_true rfl | (simp at hb;first | omega | (dsimp only;omega) | (simp <;> omega)) | omega | (dsimp only;omega)) (by first | exact Nat.le_of_ble_eq_true rfl | (simp at hb;first | omega | (dsimp only;omega) | (simp <;> omega)) | omega | (dsimp only;omega)) (fun h=>(by first | rfl | cases h))) rfl rfl rfl rfl (pre1 rfl) rfl rfl rfl ?_
 | refine stg 12 (fun hb=>hop_load_fp ty_26 rfl (by first | exact Nat.le_of_ble_eq_true rfl | (simp at hb;first | omega | (dsimp only;omega) | (simp <;> omega)) | omega | (dsimp only;omega)) (fun h=>(by first | rfl | cases h))) rfl rfl rfl rfl rfl ?_
 | refine sth 12 (fun hb=>hop_load_fp ty_26 rfl (by first | exact Nat.le_of_ble_eq_true rfl | (simp at hb;first | omega | (dsimp only;omega) | (simp <;> omega)) | omega | (dsimp only;omega)) (fun h=>(by first | rfl | cases h))) rfl rfl rfl rfl rfl ?_
 first
 | refine stg 12 (fun hb=>hop_call0 (xs:=[_]) (shape_h s (by omega) (by omega)) ⟨rfl,trivial⟩ ⟨(Fz.eq rfl),trivial⟩) rfl rfl rfl rfl rfl ?_
 | refine sth 12 (fun hb=>hop_call0 (xs:=[_]) (shape_h s (by omega) (by omega)) ⟨rfl,trivial⟩ ⟨(Fz.eq rfl),trivial⟩) rfl rfl rfl rfl rfl ?_
 first
 | refine stg 12 (fun hb=>hop_not rfl) rfl rfl rfl rfl rfl ?_
 | refine sth 12 (fun hb=>hop_not rfl) rfl rfl rfl rfl rfl ?_
 first
 | refine hq_p 16 (hstep_and _ _ rfl rfl rfl) rfl rfl rfl ?_
 | refine hq_p 16 (hstep_or _ _ rfl rfl rfl) rfl rfl rfl ?_
 | refine hq_p 16 (hstep_ite _ _ _ rfl rfl rfl) rfl rfl rfl ?_
 | refine hq_p 16 (hstep_pick _ _ _ _ rfl rfl rfl (fun _=>.refl _) (fun _=>.refl _)) rfl rfl rfl ?_
 refine nu ?_
 refine h3 _ ?_
 refine wc (fun hc0=>?_) (fun hc0=>?_)
 ·have hr0:=hc0;(try simp only [hcs,Int.reduceToNat] at hc0)
  have hs:¬ s.shape=true:=(by simpa using hr0)
  refine srg fun N h4=>?_
  refine s0 (hop_build (hs:=[]) st_26 rfl rfl trivial) ?_
  first
  | refine hm_s1 (hol_storeW ty_26 rfl rfl rfl rfl) rfl rfl (pre1 rfl) (c':=c+3) rfl ?_
  | refine hm_s1 (hol_store ty_26 rfl rfl rfl rfl (by first | exact Nat.le_of_ble_eq_true rfl | omega | (dsimp only;omega) | (simp <;> omega)) (by first | exact Nat.le_of_ble_eq_true rfl | omega | (dsimp only;omega) | (simp <;> omega)) (by first | exact Nat.le_of_ble_eq_true rfl | omega | (dsimp only;omega) | (simp <;> omega))) rfl rfl (pre1 rfl) (c':=c+3) rfl ?_
  refine sa<|snl h4<|hw_ret<|hq_then_ret ?_
  refine hf_retR2 ok hX RetS.one rfl (rvl_cell rfl rfl ty_26 rqc rfl rfl) (rval_tmp rfl) [] rfl pre0 (()) (trivial) (by rfl) (by rfl) ((by rw [byV_shape hs];exact .fz _ _ (fz_t2 (fz_agg10 fzc fzc fzc fzc fzc fzc fzc fzc fzc fzc) (.imm _)))) ?_
  exact ⟨⟨_,rfl,(okz_rtN rfl rfl rfl rfl rfl)⟩,⟨⟨_,rfl,okz_mps⟩,trivial⟩⟩
 have hr0:=hc0;(try simp only [hcs,Int.reduceToNat] at hc0)
 have hs:s.shape=true:=(by simpa using hr0);obtain ⟨q1,q2,q3,q4,q5⟩:=shape_in hs;have hba:=htl s.f 1 om om;have hbb:=htl s.t (-1) om om
 refine hw_skip<|h2 _<|srg fun N h5=>sm ?_
 refine s0 (hop_build (hs:=[(0,1,_)]) st_99 rfl rfl ⟨rfl,rfl,rfl,rfl,rfl,trivial⟩) ?_
 refine hm_1 20 (hop_box (id:=9201) (sz:=2) rfl rfl rfl (by decide) (by decide)) rfl rfl pre0 rfl rfl (c':=c+3) rfl ?_
 refine sa<|snl h5<|hw_seq fun Nh6 h6=>?_
 refine (hsub_ob 9201 (shO _ g false) rfl (osub_sh0 (b:=false) rfl rfl rfl)).wp ?_
 refine hd_start ?_
 refine dm 1 ?_
 first
 | refine hd_q 22 (hop_fa fd_26_1 rfl) rfl rfl pre0 rfl rfl (k':=2) rfl ?_
 | refine hd_q 22 (hop_fa_fp fd_26_1 rfl (by first | exact Nat.le_of_ble_eq_true rfl | omega | (dsimp only;omega) | (simp <;> omega))) rfl rfl pre0 rfl rfl (k':=2) rfl ?_
 first
 | refine hd_q 23 (HOp.val (v':=intV s.f) (hol_load ty_3 rfl (by first | exact Nat.le_of_ble_eq_true rfl | omega | (dsimp only;omega) | (simp <;> omega)) (by first | exact Nat.le_of_ble_eq_true rfl | omega | (dsimp only;omega) | (simp <;> omega)) (fun h=>(by first | rfl | cases h))) (rfl)) rfl rfl (pre1 rfl) rfl rfl (k':=3) rfl ?_
 | refine hd_q 23 (HOp.val (v':=intV s.f) (hop_load_fp ty_3 rfl (by first | exact Nat.le_of_ble_eq_true rfl | omega | (dsimp only;omega) | (simp <;> omega)) (fun h=>(by first | rfl | cases h))) (rfl)) rfl rfl pre0 rfl rfl (k':=3) rfl ?_
 refine hd_m 24 (hop_funD (xs:=[_,_,_]) (pre:=[(9201,_),(9101,_),(9102,_)]) (atN_h _ false g g2 L hL hok s.f 1) ((clocks_cons (id':=9201) (List.mem_cons_self ..) rfl (fun id o h=>⟨_,List.mem_cons_of_mem _ (hget_mem h),rfl⟩))) ⟨rfl,⟨rfl,⟨rfl,trivial⟩⟩⟩) rfl rfl (preC rfl (preC rfl (preC rfl pre0))) rfl rfl (k':=4) rfl ?_
 refine dm 5 ?_
 first
 | refine hd_q 26 (hop_fa fd_26_2 rfl) rfl rfl pre0 rfl rfl (k':=6) rfl ?_
 | refine hd_q 26 (hop_fa_fp fd_26_2 rfl (by first | exact Nat.le_of_ble_eq_true rfl | omega | (dsimp only;omega) | (simp <;> omega))) rfl rfl pre0 rfl rfl (k':=6) rfl ?_
 first
 | refine hd_q 27 (HOp.val (v':=intV s.t) (hol_load ty_3 rfl (by first | exact Nat.le_of_ble_eq_true rfl | omega | (dsimp only;omega) | (simp <;> omega)) (by first | exact Nat.le_of_ble_eq_true rfl | omega | (dsimp only;omega) | (simp <;> omega)) (fun h=>(by first | rfl | cases h))) (rfl)) rfl rfl (pre1 rfl) rfl rfl (k':=7) rfl ?_
 | refine hd_q 27 (HOp.val (v':=intV s.t) (hop_load_fp ty_3 rfl (by first | exact Nat.le_of_ble_eq_true rfl | omega | (dsimp only;omega) | (simp <;> omega)) (fun h=>(by first | rfl | cases h))) (rfl)) rfl rfl pre0 rfl rfl (k':=7) rfl ?_
 refine hd_m 28 (hop_funD (xs:=[_,_,_]) (pre:=[(9201,_),(9101,_),(9102,_)]) (atN_h _ (false||decide (((routeV L []) s.f 1).2≠0)) g g2 L hL hok s.t (-1)) ((clocks_cons (id':=9201) (List.mem_cons_self ..) rfl (fun id o h=>⟨_,List.mem_cons_of_mem _ (hget_mem h),rfl⟩))) ⟨rfl,⟨rfl,⟨rfl,trivial⟩⟩⟩) rfl rfl (preC rfl (preC rfl (preC rfl pre0))) rfl rfl (k':=8) rfl ?_
 refine hd_1 7 (hop_alloc (id:=7) (sz:=5) zc_100 rfl rfl omx omx) rfl rfl pre0 rfl rfl (k':=9) rfl ?_
 refine hd_1 8 (hop_alloc (id:=8) (sz:=5) zc_100 rfl rfl omx omx) rfl rfl pre0 rfl rfl (k':=10) rfl ?_
 first
 | refine hd_s1 (hol_storeW ty_100 rfl rfl rfl rfl) rfl rfl (pre1 rfl) (k':=11) rfl ?_
 | refine hd_s1 (hol_store ty_100 rfl rfl rfl rfl (by first | exact Nat.le_of_ble_eq_true rfl | omega | (dsimp only;omega) | (simp <;> omega)) (by first | exact Nat.le_of_ble_eq_true rfl | omega | (dsimp only;omega) | (simp <;> omega)) (by first | exact Nat.le_of_ble_eq_true rfl | omega | (dsimp only;omega) | (simp <;> omega))) rfl rfl (pre1 rfl) (k':=11) rfl ?_
 first
 | refine hd_s1 (hol_storeW ty_100 rfl rfl rfl rfl) rfl rfl (pre1 rfl) (k':=12) rfl ?_
 | refine hd_s1 (hol_store ty_100 rfl rfl rfl rfl (by first | exact Nat.le_of_ble_eq_true rfl | omega | (dsimp only;omega) | (simp <;> omega)) (by first | exact Nat.le_of_ble_eq_true rfl | omega | (dsimp only;omega) | (simp <;> omega)) (by first | exact Nat.le_of_ble_eq_true rfl | omega | (dsimp only;omega) | (simp <;> omega))) rfl rfl (pre1 rfl) (k':=12) rfl ?_
 refine hd_nil kr kr (c':=c+15) rfl ?_
 refine h6 _<|srg fun N h7=>?_
 first
 | refine hq_ 29 (hol_load ty_26 rfl (by first | exact Nat.le_of_ble_eq_true rfl | omega | (dsimp only;omega) | (simp <;> omega)) (by first | exact Nat.le_of_ble_eq_true rfl | omega | (dsimp only;omega) | (simp <;> omega)) (fun h=>(by first | rfl | cases h))) rfl rfl (pre1 rfl) rfl rfl ?_
 | refine hq_ 29 (hop_load_fp ty_26 rfl (by first | exact Nat.le_of_ble_eq_true rfl | omega | (dsimp only;omega) | (simp <;> omega)) (fun h=>(by first | rfl | cases h))) rfl rfl pre0 rfl rfl ?_
 refine hm_1 9 (hop_alloc (id:=9302) (sz:=10) zc_26 rfl rfl (by decide) (by decide)) rfl rfl pre0 rfl rfl (c':=c+16) rfl ?_
 first
 | refine hm_s1 (hol_storeW ty_26 rfl rfl rfl rfl) rfl rfl (pre1 rfl) (c':=c+17) rfl ?_
 | refine hm_s1 (hol_store ty_26 rfl rfl rfl rfl (by first | exact Nat.le_of_ble_eq_true rfl | omega | (dsimp only;omega) | (simp <;> omega)) (by first | exact Nat.le_of_ble_eq_true rfl | omega | (dsimp only;omega) | (simp <;> omega)) (by first | exact Nat.le_of_ble_eq_true rfl | omega | (dsimp only;omega) | (simp <;> omega))) rfl rfl (pre1 rfl) (c':=c+17) rfl ?_
 refine snl h7<|hw_seq fun Nh8 h8=>hd_start ?_
 first
 | refine hd_q 30 (hop_fa fd_26_8 rfl) rfl rfl pre0 rfl rfl (k':=1) rfl ?_
 | refine hd_q 30 (hop_fa_fp fd_26_8 rfl (by first | exact Nat.le_of_ble_eq_true rfl | omega | (dsimp only;omega) | (simp <;> omega))) rfl rfl pre0 rfl rfl (k':=1) rfl ?_
 first
 | refine hd_q 31 (HOp.val (v':=toksV s.sl) (hol_load ty_22 rfl (by first | exact Nat.le_of_ble_eq_true rfl | omega | (dsimp only;omega) | (simp <;> omega)) (by first | exact Nat.le_of_ble_eq_true rfl | omega | (dsimp only;omega) | (simp <;> omega)) (fun h=>(by first | rfl | cases h))) (rfl)) rfl rfl (pre1 rfl) rfl rfl (k':=2) rfl ?_
 | refine hd_q 31 (HOp.val (v':=toksV s.sl) (hop_load_fp ty_22 rfl (by first | exact Nat.le_of_ble_eq_true rfl | omega | (dsimp only;omega) | (simp <;> omega)) (fun h=>(by first | rfl | cases h))) (rfl)) rfl rfl pre0 rfl rfl (k':=2) rfl ?_
 refine d0 3 (hop_call0 (xs:=[_]) (clont_h s.sl om) ⟨rfl,trivial⟩ ⟨fe,trivial⟩) ?_
 first
 | refine hd_q 33 (hop_fa fd_26_9 rfl) rfl rfl pre0 rfl rfl (k':=4) rfl ?_
 | refine hd_q 33 (hop_fa_fp fd_26_9 rfl (by first | exact Nat.le_of_ble_eq_true rfl | omega | (dsimp only;omega) | (simp <;> omega))) rfl rfl pre0 rfl rfl (k':=4) rfl ?_
 first
 | refine hd_q 34 (HOp.val (v':=mkssV s.sets) (hol_load ty_24 rfl (by first | exact Nat.le_of_ble_eq_true rfl | omega | (dsimp only;omega) | (simp <;> omega)) (by first | exact Nat.le_of_ble_eq_true rfl | omega | (dsimp only;omega) | (simp <;> omega)) (fun h=>(by first | rfl | cases h))) (rfl)) rfl rfl (pre1 rfl) rfl rfl (k':=5) rfl ?_
 | refine hd_q 34 (HOp.val (v':=mkssV s.sets) (hop_load_fp ty_24 rfl (by first | exact Nat.le_of_ble_eq_true rfl | omega | (dsimp only;omega) | (simp <;> omega)) (fun h=>(by first | rfl | cases h))) (rfl)) rfl rfl pre0 rfl rfl (k':=5) rfl ?_
 refine d0 6 (hop_call0 (xs:=[_]) (clonm_h s.sets om) ⟨rfl,trivial⟩ ⟨fe,trivial⟩) ?_
 first
 | refine hd_q 36 (hop_fa fd_26_8 rfl) rfl rfl pre0 rfl rfl (k':=7) rfl ?_
 | refine hd_q 36 (hop_fa_fp fd_26_8 rfl (by first | exact Nat.le_of_ble_eq_true rfl | omega | (dsimp only;omega) | (simp <;> omega))) rfl rfl pre0 rfl rfl (k':=7) rfl ?_
 first
 | refine hd_s1 (hol_storeW ty_22 rfl rfl rfl rfl) rfl rfl (pre1 rfl) (k':=8) rfl ?_
 | refine hd_s1 (hol_store ty_22 rfl rfl rfl rfl (by first | exact Nat.le_of_ble_eq_true rfl | omega | (dsimp only;omega) | (simp <;> omega)) (by first | exact Nat.le_of_ble_eq_true rfl | omega | (dsimp only;omega) | (simp <;> omega)) (by first | exact Nat.le_of_ble_eq_true rfl | omega | (dsimp only;omega) | (simp <;> omega))) rfl rfl (pre1 rfl) (k':=8) rfl ?_
 first
 | refine hd_q 37 (hop_fa fd_26_9 rfl) rfl rfl pre0 rfl rfl (k':=9) rfl ?_
 | refine hd_q 37 (hop_fa_fp fd_26_9 rfl (by first | exact Nat.le_of_ble_eq_true rfl | omega | (dsimp only;omega) | (simp <;> omega))) rfl rfl pre0 rfl rfl (k':=9) rfl ?_
 first
 | refine hd_s1 (hol_storeW ty_24 rfl rfl rfl rfl) rfl rfl (pre1 rfl) (k':=10) rfl ?_
 | refine hd_s1 (hol_store ty_24 rfl rfl rfl rfl (by first | exact Nat.le_of_ble_eq_true rfl | omega | (dsimp only;omega) | (simp <;> omega)) (by first | exact Nat.le_of_ble_eq_true rfl | omega | (dsimp only;omega) | (simp <;> omega)) (by first | exact Nat.le_of_ble_eq_true rfl | omega | (dsimp only;omega) | (simp <;> omega))) rfl rfl (pre1 rfl) (k':=10) rfl ?_
 refine hd_nil kr kr (c':=c+27) rfl ?_
 refine h8 _<|hw_seq fun Nh9 h9=>hd_start ?_
 first
 | refine hd_q 38 (hop_fa fd_100_0 rfl) rfl rfl pre0 rfl rfl (k':=1) rfl ?_
 | refine hd_q 38 (hop_fa_fp fd_100_0 rfl (by first | exact Nat.le_of_ble_eq_true rfl | omega | (dsimp only;omega) | (simp <;> omega))) rfl rfl pre0 rfl rfl (k':=1) rfl ?_
 first
 | refine hd_q 39 (HOp.val (v':=intV ((routeV L []) s.f 1).1.pos) (hol_load ty_3 rfl (by first | exact Nat.le_of_ble_eq_true rfl | omega | (dsimp only;omega) | (simp <;> omega)) (by first | exact Nat.le_of_ble_eq_true rfl | omega | (dsimp only;omega) | (simp <;> omega)) (fun h=>(by first | rfl | cases h))) (rfl)) rfl rfl (pre1 rfl) rfl rfl (k':=2) rfl ?_
 | refine hd_q 39 (HOp.val (v':=intV ((routeV L []) s.f 1).1.pos) (hop_load_fp ty_3 rfl (by first | exact Nat.le_of_ble_eq_true rfl | omega | (dsimp only;omega) | (simp <;> omega)) (fun h=>(by first | rfl | cases h))) (rfl)) rfl rfl pre0 rfl rfl (k':=2) rfl ?_
 first
 | refine hd_q 40 (hop_fa fd_100_0 rfl) rfl rfl pre0 rfl rfl (k':=3) rfl ?_
 | refine hd_q 40 (hop_fa_fp fd_100_0 rfl (by first | exact Nat.le_of_ble_eq_true rfl | omega | (dsimp only;omega) | (simp <;> omega))) rfl rfl pre0 rfl rfl (k':=3) rfl ?_
 first
 | refine hd_q 41 (HOp.val (v':=intV ((routeV L []) s.f 1).1.pos) (hol_load ty_3 rfl (by first | exact Nat.le_of_ble_eq_true rfl | omega | (dsimp only;omega) | (simp <;> omega)) (by first | exact Nat.le_of_ble_eq_true rfl | omega | (dsimp only;omega) | (simp <;> omega)) (fun h=>(by first | rfl | cases h))) (rfl)) rfl rfl (pre1 rfl) rfl rfl (k':=4) rfl ?_
 | refine hd_q 41 (HOp.val (v':=intV ((routeV L []) s.f 1).1.pos) (hop_load_fp ty_3 rfl (by first | exact Nat.le_of_ble_eq_true rfl | omega | (dsimp only;omega) | (simp <;> omega)) (fun h=>(by first | rfl | cases h))) (rfl)) rfl rfl pre0 rfl rfl (k':=4) rfl ?_
 first
 | refine hd_q 42 (hop_fa fd_100_0 rfl) rfl rfl pre0 rfl rfl (k':=5) rfl ?_
 | refine hd_q 42 (hop_fa_fp fd_100_0 rfl (by first | exact Nat.le_of_ble_eq_true rfl | omega | (dsimp only;omega) | (simp <;> omega))) rfl rfl pre0 rfl rfl (k':=5) rfl ?_
 first
 | refine hd_q 43 (HOp.val (v':=intV ((routeV L []) s.t (-1)).1.pos) (hol_load ty_3 rfl (by first | exact Nat.le_of_ble_eq_true rfl | omega | (dsimp only;omega) | (simp <;> omega)) (by first | exact Nat.le_of_ble_eq_true rfl | omega | (dsimp only;omega) | (simp <;> omega)) (fun h=>(by first | rfl | cases h))) (rfl)) rfl rfl (pre1 rfl) rfl rfl (k':=6) rfl ?_
 | refine hd_q 43 (HOp.val (v':=intV ((routeV L []) s.t (-1)).1.pos) (hop_load_fp ty_3 rfl (by first | exact Nat.le_of_ble_eq_true rfl | omega | (dsimp only;omega) | (simp <;> omega)) (fun h=>(by first | rfl | cases h))) (rfl)) rfl rfl pre0 rfl rfl (k':=6) rfl ?_
 refine d0 7 (hop_max rfl rfl) ?_
 first
 | refine hd_q 45 (hop_fa fd_26_1 rfl) rfl rfl pre0 rfl rfl (k':=8) rfl ?_
 | refine hd_q 45 (hop_fa_fp fd_26_1 rfl (by first | exact Nat.le_of_ble_eq_true rfl | omega | (dsimp only;omega) | (simp <;> omega))) rfl rfl pre0 rfl rfl (k':=8) rfl ?_
 first
 | refine hd_s1 (hol_storeW ty_3 rfl rfl rfl rfl) rfl rfl (pre1 rfl) (k':=9) rfl ?_
 | refine hd_s1 (hol_store ty_3 rfl rfl rfl rfl (by first | exact Nat.le_of_ble_eq_true rfl | omega | (dsimp only;omega) | (simp <;> omega)) (by first | exact Nat.le_of_ble_eq_true rfl | omega | (dsimp only;omega) | (simp <;> omega)) (by first | exact Nat.le_of_ble_eq_true rfl | omega | (dsimp only;omega) | (simp <;> omega))) rfl rfl (pre1 rfl) (k':=9) rfl ?_
 first
 | refine hd_q 46 (hop_fa fd_26_2 rfl) rfl rfl pre0 rfl rfl (k':=10) rfl ?_
 | refine hd_q 46 (hop_fa_fp fd_26_2 rfl (by first | exact Nat.le_of_ble_eq_true rfl | omega | (dsimp only;omega) | (simp <;> omega))) rfl rfl pre0 rfl rfl (k':=10) rfl ?_
 first
 | refine hd_s1 (hol_storeW ty_3 rfl rfl rfl rfl) rfl rfl (pre1 rfl) (k':=11) rfl ?_
 | refine hd_s1 (hol_store ty_3 rfl rfl rfl rfl (by first | exact Nat.le_of_ble_eq_true rfl | omega | (dsimp only;omega) | (simp <;> omega)) (by first | exact Nat.le_of_ble_eq_true rfl | omega | (dsimp only;omega) | (simp <;> omega)) (by first | exact Nat.le_of_ble_eq_true rfl | omega | (dsimp only;omega) | (simp <;> omega))) rfl rfl (pre1 rfl) (k':=11) rfl ?_
 refine hd_nil kr kr (c':=c+38) rfl ?_
 refine h9 _<|hw_seq fun Nh10 h10=>hw_seq fun Nh11 h11=>?_
 by_cases hg:gone2 (routeV L []) s
 ·skip
  refine hw_region<|sm ?_
  first
  | refine hq_ 48 (hop_nilcheck_pt rfl) rfl rfl pre0 rfl rfl ?_
  | refine hq_ 48 (hop_nilcheck_fp rfl) rfl rfl pre0 rfl rfl ?_
  first
  | refine hq_ 49 (hop_fa fd_99_1 rfl) rfl rfl pre0 rfl rfl ?_
  | refine hq_ 49 (hop_fa_fp fd_99_1 rfl (by first | exact Nat.le_of_ble_eq_true rfl | omega | (dsimp only;omega) | (simp <;> omega))) rfl rfl pre0 rfl rfl ?_
  first
  | refine hq_ 50 (HOp.val (v':=boolV ((false||decide (((routeV L []) s.f 1).2≠0))||decide (((routeV L []) s.t (-1)).2≠0))) (hol_load ty_4 rfl (by first | exact Nat.le_of_ble_eq_true rfl | omega | (dsimp only;omega) | (simp <;> omega)) (by first | exact Nat.le_of_ble_eq_true rfl | omega | (dsimp only;omega) | (simp <;> omega)) (fun h=>(by first | rfl | cases h))) (rfl)) rfl rfl (pre1 rfl) rfl rfl ?_
  | refine hq_ 50 (HOp.val (v':=boolV ((false||decide (((routeV L []) s.f 1).2≠0))||decide (((routeV L []) s.t (-1)).2≠0))) (hop_load_fp ty_4 rfl (by first | exact Nat.le_of_ble_eq_true rfl | omega | (dsimp only;omega) | (simp <;> omega)) (fun h=>(by first | rfl | cases h))) (rfl)) rfl rfl pre0 rfl rfl ?_
  refine sm ?_
  first
  | refine stg 51 (fun hb=>hop_fa fd_100_2 rfl) rfl rfl rfl rfl rfl ?_
  | refine sth 51 (fun hb=>hop_fa fd_100_2 rfl) rfl rfl rfl rfl rfl ?_
  | refine stg 51 (fun hb=>hop_fa_fp fd_100_2 rfl (by first | exact Nat.le_of_ble_eq_true rfl | (simp at hb;first | omega | (dsimp only;omega) | (simp <;> omega)) | omega | (dsimp only;omega))) rfl rfl rfl rfl rfl ?_
  | refine sth 51 (fun hb=>hop_fa_fp fd_100_2 rfl (by first | exact Nat.le_of_ble_eq_true rfl | (simp at hb;first | omega | (dsimp only;omega) | (simp <;> omega)) | omega | (dsimp only;omega))) rfl rfl rfl rfl rfl ?_
  first
  | refine hq_g 53 4 51 false _ (fun hb=>HOp.val (v':=boolV ((routeV L []) s.f 1).1.ins) (hol_load ty_4 rfl (by first | exact Nat.le_of_ble_eq_true rfl | (simp at hb;first | omega | (dsimp only;omega) | (simp <;> omega)) | omega | (dsimp only;omega)) (by first | exact Nat.le_of_ble_eq_true rfl | (simp at hb;first | omega | (dsimp only;omega) | (simp <;> omega)) | omega | (dsimp only;omega)) (fun h=>(by first | rfl | cases h))) (rfl)) rfl rfl rfl rfl (pre1 rfl) rfl rfl rfl ?_
  | refine hq_g2 53 4 51 _ _ false _ (fun hb=>HOp.val (v':=boolV ((routeV L []) s.f 1).1.ins) (hol_load ty_4 rfl (by first | exact Nat.le_of_ble_eq_true rfl | (simp at hb;first | omega | (dsimp only;omega) | (simp <;> omega)) | omega | (dsimp only;omega)) (by first | exact Nat.le_of_ble_eq_true rfl | (simp at hb;first | omega | (dsimp only;omega) | (simp <;> omega)) | omega | (dsimp only;omega)) (fun h=>(by first | rfl | cases h))) (rfl)) rfl rfl rfl rfl (pre1 rfl) rfl rfl rfl ?_
  | refine stg 51 (fun hb=>HOp.val (v':=boolV ((routeV L []) s.f 1).1.ins) (hop_load_fp ty_4 rfl (by first | exact Nat.le_of_ble_eq_true rfl | (simp at hb;first | omega | (dsimp only;omega) | (simp <;> omega)) | omega | (dsimp only;omega)) (fun h=>(by first | rfl | cases h))) (rfl)) rfl rfl rfl rfl rfl ?_
  | refine sth 51 (fun hb=>HOp.val (v':=boolV ((routeV L []) s.f 1).1.ins) (hop_load_fp ty_4 rfl (by first | exact Nat.le_of_ble_eq_true rfl | (simp at hb;first | omega | (dsimp only;omega) | (simp <;> omega)) | omega | (dsimp only;omega)) (fun h=>(by first | rfl | cases h))) (rfl)) rfl rfl rfl rfl rfl ?_
  first
  | refine stg 51 (fun hb=>hop_move rfl) rfl rfl rfl rfl rfl ?_
  | refine sth 51 (fun hb=>hop_move rfl) rfl rfl rfl rfl rfl ?_
  first
  | refine stg 54 (fun hb=>hop_fa fd_100_2 rfl) rfl rfl rfl rfl rfl ?_
  | refine hq_g3 55 7 54 51 false true _ _ (fun hb hb2=>hop_fa fd_100_2 rfl) rfl rfl rfl rfl rfl pre0 rfl rfl rfl ?_
  | refine sth 54 (fun hb=>hop_fa fd_100_2 rfl) rfl rfl rfl rfl rfl ?_
  | refine stg 54 (fun hb=>hop_fa_fp fd_100_2 rfl (by first | exact Nat.le_of_ble_eq_true rfl | (simp at hb;first | omega | (dsimp only;omega) | (simp <;> omega)) | omega | (dsimp only;omega))) rfl rfl rfl rfl rfl ?_
  | refine hq_g3 55 7 54 51 false true _ _ (fun hb hb2=>hop_fa_fp fd_100_2 rfl (by first | exact Nat.le_of_ble_eq_true rfl | (simp at hb;omega) | (simp at hb2;omega) | (simp at hb hb2;first | omega | (dsimp only;omega) | (simp <;> omega)) | omega | (dsimp only;omega))) rfl rfl rfl rfl rfl pre0 rfl rfl rfl ?_
  | refine sth 54 (fun hb=>hop_fa_fp fd_100_2 rfl (by first | exact Nat.le_of_ble_eq_true rfl | (simp at hb;first | omega | (dsimp only;omega) | (simp <;> omega)) | omega | (dsimp only;omega))) rfl rfl rfl rfl rfl ?_
  first
  | refine hq_g 56 7 54 true _ (fun hb=>HOp.val (v':=boolV ((routeV L []) s.t (-1)).1.ins) (hol_load ty_4 rfl (by first | exact Nat.le_of_ble_eq_true rfl | (simp at hb;first | omega | (dsimp only;omega) | (simp <;> omega)) | omega | (dsimp only;omega)) (by first | exact Nat.le_of_ble_eq_true rfl | (simp at hb;first | omega | (dsimp only;omega) | (simp <;> omega)) | omega | (dsimp only;omega)) (fun h=>(by first | rfl | cases h))) (rfl)) rfl rfl rfl rfl (pre1 rfl) rfl rfl rfl ?_
  | refine hq_g3 56 7 54 51 false true _ _ (fun hb hb2=>HOp.val (v':=boolV ((routeV L []) s.t (-1)).1.ins) (hol_load ty_4 rfl (by first | exact Nat.le_of_ble_eq_true rfl | (simp at hb;omega) | (simp at hb2;omega) | (simp at hb hb2;first | omega | (dsimp only;omega) | (simp <;> omega)) | omega | (dsimp only;omega)) (by first | exact Nat.le_of_ble_eq_true rfl | (simp at hb;omega) | (simp at hb2;omega) | (simp at hb hb2;first | omega | (dsimp only;omega) | (simp <;> omega)) | omega | (dsimp only;omega)) (fun h=>(by first | rfl | cases h))) (rfl)) rfl rfl rfl rfl rfl (pre1 rfl) rfl rfl rfl ?_
  | refine hq_g2 56 7 54 _ _ true _ (fun hb=>HOp.val (v':=boolV ((routeV L []) s.t (-1)).1.ins) (hol_load ty_4 rfl (by first | exact Nat.le_of_ble_eq_true rfl | (simp at hb;first | omega | (dsimp only;omega) | (simp <;> omega)) | omega | (dsimp only;omega)) (by first | exact Nat.le_of_ble_eq_true rfl | (simp at hb;first | omega | (dsimp only;omega) | (simp <;> omega)) | omega | (dsimp only;omega)) (fun h=>(by first | rfl | cases h))) (rfl)) rfl rfl rfl rfl (pre1 rfl) rfl rfl rfl ?_
  | refine stg 54 (fun hb=>HOp.val (v':=boolV ((routeV L []) s.t (-1)).1.ins) (hop_load_fp ty_4 rfl (by first | exact Nat.le_of_ble_eq_true rfl | (simp at hb;first | omega | (dsimp only;omega) | (simp <;> omega)) | omega | (dsimp only;omega)) (fun h=>(by first | rfl | cases h))) (rfl)) rfl rfl rfl rfl rfl ?_
  | refine hq_g3 56 7 54 51 false true _ _ (fun hb hb2=>HOp.val (v':=boolV ((routeV L []) s.t (-1)).1.ins) (hop_load_fp ty_4 rfl (by first | exact Nat.le_of_ble_eq_true rfl | (simp at hb;omega) | (simp at hb2;omega) | (simp at hb hb2;first | omega | (dsimp only;omega) | (simp <;> omega)) | omega | (dsimp only;omega)) (fun h=>(by first | rfl | cases h))) (rfl)) rfl rfl rfl rfl rfl pre0 rfl rfl rfl ?_
  | refine sth 54 (fun hb=>HOp.val (v':=boolV ((routeV L []) s.t (-1)).1.ins) (hop_load_fp ty_4 rfl (by first | exact Nat.le_of_ble_eq_true rfl | (simp at hb;first | omega | (dsimp only;omega) | (simp <;> omega)) | omega | (dsimp only;omega)) (fun h=>(by first | rfl | cases h))) (rfl)) rfl rfl rfl rfl rfl ?_
  first
  | refine hq_pg 57 (hstep_andg (gi:=4) (j:=51) _ _ rfl rfl rfl rfl) rfl rfl rfl rfl ?_
  | refine hq_pg 57 (hstep_org (gi:=4) (j:=51) _ _ rfl rfl rfl rfl) rfl rfl rfl rfl ?_
  | refine hq_pg 57 (hstep_pickg (gi:=4) (j:=51) _ _ _ _ rfl rfl rfl rfl (fun _=>.refl _) (fun _=>.refl _)) rfl rfl rfl rfl ?_
  first
  | refine hq_p 58 (hstep_and _ _ rfl rfl rfl) rfl rfl rfl ?_
  | refine hq_p 58 (hstep_or _ _ rfl rfl rfl) rfl rfl rfl ?_
  | refine hq_p 58 (hstep_ite _ _ _ rfl rfl rfl) rfl rfl rfl ?_
  | refine hq_p 58 (hstep_pick _ _ _ _ rfl rfl rfl (fun _=>.refl _) (fun _=>.refl _)) rfl rfl rfl ?_
  refine s0 (HOp.val (v':=boolV true) (hop_move rfl) (congrArg (fun b=>boolV b) (gone2_t hg))) ?_
  refine hq_g 60 12 59 false true (v:=.imm undef) (fun h=>absurd h (by decide)) rfl rfl rfl rfl pre0 rfl rfl rfl ?_
  refine hq_g 61 12 59 false true (v:=.imm undef) (fun h=>absurd h (by decide)) rfl rfl rfl rfl pre0 rfl rfl rfl ?_
  refine hq_g 62 12 59 false true (v:=.imm undef) (fun h=>absurd h (by decide)) rfl rfl rfl rfl pre0 rfl rfl rfl ?_
  refine hq_g 63 12 59 false true (v:=.imm undef) (fun h=>absurd h (by decide)) rfl rfl rfl rfl pre0 rfl rfl rfl ?_
  refine hq_g 64 12 59 false true (v:=.imm undef) (fun h=>absurd h (by decide)) rfl rfl rfl rfl pre0 rfl rfl rfl ?_
  refine s0 (hop_pick_t rfl rfl) ?_
  refine sm ?_
  refine hq_g 67 19 66 false true (v:=.imm undef) (fun h=>absurd h (by decide)) rfl rfl rfl rfl pre0 rfl rfl rfl ?_
  refine hq_g 68 19 66 false true (v:=.imm undef) (fun h=>absurd h (by decide)) rfl rfl rfl rfl pre0 rfl rfl rfl ?_
  refine hq_g 69 19 66 false true (v:=.imm undef) (fun h=>absurd h (by decide)) rfl rfl rfl rfl pre0 rfl rfl rfl ?_
  refine hq_g 70 19 66 false true (v:=.imm undef) (fun h=>absurd h (by decide)) rfl rfl rfl rfl pre0 rfl rfl rfl ?_
  refine s0 (hop_pick_t rfl rfl) ?_
  refine sm ?_
  refine hq_g 73 25 72 false true (v:=.imm undef) (fun h=>absurd h (by decide)) rfl rfl rfl rfl pre0 rfl rfl rfl ?_
  refine hq_g 74 25 72 false true (v:=.imm undef) (fun h=>absurd h (by decide)) rfl rfl rfl rfl pre0 rfl rfl rfl ?_
  refine hq_g 75 25 72 false true (v:=.imm undef) (fun h=>absurd h (by decide)) rfl rfl rfl rfl pre0 rfl rfl rfl ?_
  refine s0 (hop_pick_t rfl rfl) ?_
  refine nu ?_
  refine h11 _ ?_
  refine wc (fun hc1=>?_) (fun hc1=>?_)
  ·have hr1:=hc1;(try simp only [hcs,Int.reduceToNat] at hc1)
   refine srg fun N h12=>?_
   refine s0 (hop_build (hs:=[]) st_26 rfl rfl trivial) ?_
   first
   | refine hm_s1 (hol_storeW ty_26 rfl rfl rfl rfl) rfl rfl (pre1 rfl) (c':=c+39) rfl ?_
   | refine hm_s1 (hol_store ty_26 rfl rfl rfl rfl (by first | exact Nat.le_of_ble_eq_true rfl | omega | (dsimp only;omega) | (simp <;> omega)) (by first | exact Nat.le_of_ble_eq_true rfl | omega | (dsimp only;omega) | (simp <;> omega)) (by first | exact Nat.le_of_ble_eq_true rfl | omega | (dsimp only;omega) | (simp <;> omega))) rfl rfl (pre1 rfl) (c':=c+39) rfl ?_
   refine sa<|snl h12<|hw_ret<|hq_then_ret ?_
   refine hf_retR2 ok hX RetS.one rfl (rvl_cell rfl rfl ty_26 rqc rfl rfl) (rval_tmp rfl) [] rfl pre0 (()) (trivial) (by rfl) (by rfl) ((by rw [byV_gone hg];exact .fz _ _ (fz_t2 (fz_agg10 fzc fzc fzc fzc fzc fzc fzc fzc fzc fzc) (.imm _)))) ?_
   exact ⟨⟨_,rfl,(okz_rtN rfl rfl rfl rfl rfl)⟩,⟨⟨_,rfl,okz_mps⟩,trivial⟩⟩
  have hr1:=hc1;(try simp only [hcs,Int.reduceToNat] at hc1)
  exfalso;simp at hr1
 ·skip
  refine (hsub_ob 9302 (stO _ (outV (routeV L []) s)) rfl (osub_st (fun j hj=>(sb10 (by exact .refl _) (by exact .refl _) (by exact .refl _) (by exact .refl _) (by exact .refl _) (by exact .refl _) (by exact .refl _) (by exact .refl _) (by exact .refl _) (by exact .refl _)) j hj))).wp ?_;refine (hsub_ob 9201 (shO _ g false) rfl (osub_sh0 rfl rfl (gone2_f hg).1)).wp ?_
  refine hw_region<|sm ?_
  first
  | refine hq_ 48 (hop_nilcheck_pt rfl) rfl rfl pre0 rfl rfl ?_
  | refine hq_ 48 (hop_nilcheck_fp rfl) rfl rfl pre0 rfl rfl ?_
  first
  | refine hq_ 49 (hop_fa fd_99_1 rfl) rfl rfl pre0 rfl rfl ?_
  | refine hq_ 49 (hop_fa_fp fd_99_1 rfl (by first | exact Nat.le_of_ble_eq_true rfl | omega | (dsimp only;omega) | (simp <;> omega))) rfl rfl pre0 rfl rfl ?_
  first
  | refine hq_ 50 (HOp.val (v':=boolV false) (hol_load ty_4 rfl (by first | exact Nat.le_of_ble_eq_true rfl | omega | (dsimp only;omega) | (simp <;> omega)) (by first | exact Nat.le_of_ble_eq_true rfl | omega | (dsimp only;omega) | (simp <;> omega)) (fun h=>(by first | rfl | cases h))) (rfl)) rfl rfl (pre1 rfl) rfl rfl ?_
  | refine hq_ 50 (HOp.val (v':=boolV false) (hop_load_fp ty_4 rfl (by first | exact Nat.le_of_ble_eq_true rfl | omega | (dsimp only;omega) | (simp <;> omega)) (fun h=>(by first | rfl | cases h))) (rfl)) rfl rfl pre0 rfl rfl ?_
  refine sm ?_
  first
  | refine stg 51 (fun hb=>hop_fa fd_100_2 rfl) rfl rfl rfl rfl rfl ?_
  | refine sth 51 (fun hb=>hop_fa fd_100_2 rfl) rfl rfl rfl rfl rfl ?_
  | refine stg 51 (fun hb=>hop_fa_fp fd_100_2 rfl (by first | exact Nat.le_of_ble_eq_true rfl | (simp at hb;first | omega | (dsimp only;omega) | (simp <;> omega)) | omega | (dsimp only;omega))) rfl rfl rfl rfl rfl ?_
  | refine sth 51 (fun hb=>hop_fa_fp fd_100_2 rfl (by first | exact Nat.le_of_ble_eq_true rfl | (simp at hb;first | omega | (dsimp only;omega) | (simp <;> omega)) | omega | (dsimp only;omega))) rfl rfl rfl rfl rfl ?_
  first
  | refine hq_g 53 4 51 false _ (fun hb=>HOp.val (v':=boolV ((routeV L []) s.f 1).1.ins) (hol_load ty_4 rfl (by first | exact Nat.le_of_ble_eq_true rfl | (simp at hb;first | omega | (dsimp only;omega) | (simp <;> omega)) | omega | (dsimp only;omega)) (by first | exact Nat.le_of_ble_eq_true rfl | (simp at hb;first | omega | (dsimp only;omega) | (simp <;> omega)) | omega | (dsimp only;omega)) (fun h=>(by first | rfl | cases h))) (rfl)) rfl rfl rfl rfl (pre1 rfl) rfl rfl rfl ?_
  | refine hq_g2 53 4 51 _ _ false _ (fun hb=>HOp.val (v':=boolV ((routeV L []) s.f 1).1.ins) (hol_load ty_4 rfl (by first | exact Nat.le_of_ble_eq_true rfl | (simp at hb;first | omega | (dsimp only;omega) | (simp <;> omega)) | omega | (dsimp only;omega)) (by first | exact Nat.le_of_ble_eq_true rfl | (simp at hb;first | omega | (dsimp only;omega) | (simp <;> omega)) | omega | (dsimp only;omega)) (fun h=>(by first | rfl | cases h))) (rfl)) rfl rfl rfl rfl (pre1 rfl) rfl rfl rfl ?_
  | refine stg 51 (fun hb=>HOp.val (v':=boolV ((routeV L []) s.f 1).1.ins) (hop_load_fp ty_4 rfl (by first | exact Nat.le_of_ble_eq_true rfl | (simp at hb;first | omega | (dsimp only;omega) | (simp <;> omega)) | omega | (dsimp only;omega)) (fun h=>(by first | rfl | cases h))) (rfl)) rfl rfl rfl rfl rfl ?_
  | refine sth 51 (fun hb=>HOp.val (v':=boolV ((routeV L []) s.f 1).1.ins) (hop_load_fp ty_4 rfl (by first | exact Nat.le_of_ble_eq_true rfl | (simp at hb;first | omega | (dsimp only;omega) | (simp <;> omega)) | omega | (dsimp only;omega)) (fun h=>(by first | rfl | cases h))) (rfl)) rfl rfl rfl rfl rfl ?_
  first
  | refine stg 51 (fun hb=>hop_move rfl) rfl rfl rfl rfl rfl ?_
  | refine sth 51 (fun hb=>hop_move rfl) rfl rfl rfl rfl rfl ?_
  first
  | refine stg 54 (fun hb=>hop_fa fd_100_2 rfl) rfl rfl rfl rfl rfl ?_
  | refine hq_g3 55 7 54 51 false true _ _ (fun hb hb2=>hop_fa fd_100_2 rfl) rfl rfl rfl rfl rfl pre0 rfl rfl rfl ?_
  | refine sth 54 (fun hb=>hop_fa fd_100_2 rfl) rfl rfl rfl rfl rfl ?_
  | refine stg 54 (fun hb=>hop_fa_fp fd_100_2 rfl (by first | exact Nat.le_of_ble_eq_true rfl | (simp at hb;first | omega | (dsimp only;omega) | (simp <;> omega)) | omega | (dsimp only;omega))) rfl rfl rfl rfl rfl ?_
  | refine hq_g3 55 7 54 51 false true _ _ (fun hb hb2=>hop_fa_fp fd_100_2 rfl (by first | exact Nat.le_of_ble_eq_true rfl | (simp at hb;omega) | (simp at hb2;omega) | (simp at hb hb2;first | omega | (dsimp only;omega) | (simp <;> omega)) | omega | (dsimp only;omega))) rfl rfl rfl rfl rfl pre0 rfl rfl rfl ?_
  | refine sth 54 (fun hb=>hop_fa_fp fd_100_2 rfl (by first | exact Nat.le_of_ble_eq_true rfl | (simp at hb;first | omega | (dsimp only;omega) | (simp <;> omega)) | omega | (dsimp only;omega))) rfl rfl rfl rfl rfl ?_
  first
  | refine hq_g 56 7 54 true _ (fun hb=>HOp.val (v':=boolV ((routeV L []) s.t (-1)).1.ins) (hol_load ty_4 rfl (by first | exact Nat.le_of_ble_eq_true rfl | (simp at hb;first | omega | (dsimp only;omega) | (simp <;> omega)) | omega | (dsimp only;omega)) (by first | exact Nat.le_of_ble_eq_true rfl | (simp at hb;first | omega | (dsimp only;omega) | (simp <;> omega)) | omega | (dsimp only;omega)) (fun h=>(by first | rfl | cases h))) (rfl)) rfl rfl rfl rfl (pre1 rfl) rfl rfl rfl ?_
  | refine hq_g3 56 7 54 51 false true _ _ (fun hb hb2=>HOp.val (v':=boolV ((routeV L []) s.t (-1)).1.ins) (hol_load ty_4 rfl (by first | exact Nat.le_of_ble_eq_true rfl | (simp at hb;omega) | (simp at hb2;omega) | (simp at hb hb2;first | omega | (dsimp only;omega) | (simp <;> omega)) | omega | (dsimp only;omega)) (by first | exact Nat.le_of_ble_eq_true rfl | (simp at hb;omega) | (simp at hb2;omega) | (simp at hb hb2;first | omega | (dsimp only;omega) | (simp <;> omega)) | omega | (dsimp only;omega)) (fun h=>(by first | rfl | cases h))) (rfl)) rfl rfl rfl rfl rfl (pre1 rfl) rfl rfl rfl ?_
  | refine hq_g2 56 7 54 _ _ true _ (fun hb=>HOp.val (v':=boolV ((routeV L []) s.t (-1)).1.ins) (hol_load ty_4 rfl (by first | exact Nat.le_of_ble_eq_true rfl | (simp at hb;first | omega | (dsimp only;omega) | (simp <;> omega)) | omega | (dsimp only;omega)) (by first | exact Nat.le_of_ble_eq_true rfl | (simp at hb;first | omega | (dsimp only;omega) | (simp <;> omega)) | omega | (dsimp only;omega)) (fun h=>(by first | rfl | cases h))) (rfl)) rfl rfl rfl rfl (pre1 rfl) rfl rfl rfl ?_
  | refine stg 54 (fun hb=>HOp.val (v':=boolV ((routeV L []) s.t (-1)).1.ins) (hop_load_fp ty_4 rfl (by first | exact Nat.le_of_ble_eq_true rfl | (simp at hb;first | omega | (dsimp only;omega) | (simp <;> omega)) | omega | (dsimp only;omega)) (fun h=>(by first | rfl | cases h))) (rfl)) rfl rfl rfl rfl rfl ?_
  | refine hq_g3 56 7 54 51 false true _ _ (fun hb hb2=>HOp.val (v':=boolV ((routeV L []) s.t (-1)).1.ins) (hop_load_fp ty_4 rfl (by first | exact Nat.le_of_ble_eq_true rfl | (simp at hb;omega) | (simp at hb2;omega) | (simp at hb hb2;first | omega | (dsimp only;omega) | (simp <;> omega)) | omega | (dsimp only;omega)) (fun h=>(by first | rfl | cases h))) (rfl)) rfl rfl rfl rfl rfl pre0 rfl rfl rfl ?_
  | refine sth 54 (fun hb=>HOp.val (v':=boolV ((routeV L []) s.t (-1)).1.ins) (hop_load_fp ty_4 rfl (by first | exact Nat.le_of_ble_eq_true rfl | (simp at hb;first | omega | (dsimp only;omega) | (simp <;> omega)) | omega | (dsimp only;omega)) (fun h=>(by first | rfl | cases h))) (rfl)) rfl rfl rfl rfl rfl ?_
  first
  | refine hq_pg 57 (hstep_andg (gi:=4) (j:=51) _ _ rfl rfl rfl rfl) rfl rfl rfl rfl ?_
  | refine hq_pg 57 (hstep_org (gi:=4) (j:=51) _ _ rfl rfl rfl rfl) rfl rfl rfl rfl ?_
  | refine hq_pg 57 (hstep_pickg (gi:=4) (j:=51) _ _ _ _ rfl rfl rfl rfl (fun _=>.refl _) (fun _=>.refl _)) rfl rfl rfl rfl ?_
  first
  | refine hq_p 58 (hstep_and _ _ rfl rfl rfl) rfl rfl rfl ?_
  | refine hq_p 58 (hstep_or _ _ rfl rfl rfl) rfl rfl rfl ?_
  | refine hq_p 58 (hstep_ite _ _ _ rfl rfl rfl) rfl rfl rfl ?_
  | refine hq_p 58 (hstep_pick _ _ _ _ rfl rfl rfl (fun _=>.refl _) (fun _=>.refl _)) rfl rfl rfl ?_
  refine s0 (HOp.val (v':=boolV false) (hop_move rfl) (congrArg (fun b=>boolV b) (gone2_f hg).2)) ?_
  refine hq_k 60 59 false (hop_move rfl) rfl rfl rfl rfl pre0 rfl rfl ?_
  first
  | refine hq_k 61 59 false (hop_fa fd_100_0 rfl) rfl rfl rfl rfl pre0 rfl rfl ?_
  | refine hq_k 61 59 false (hop_fa_fp fd_100_0 rfl (by first | exact Nat.le_of_ble_eq_true rfl | (simp at hb;first | omega | (dsimp only;omega) | (simp <;> omega)) | omega | (dsimp only;omega))) rfl rfl rfl rfl pre0 rfl rfl ?_
  first
  | refine hq_k 62 59 false (HOp.val (v':=intV ((routeV L []) s.t (-1)).1.pos) (hol_load ty_3 rfl (by first | exact Nat.le_of_ble_eq_true rfl | (simp at hb;first | omega | (dsimp only;omega) | (simp <;> omega)) | omega | (dsimp only;omega)) (by first | exact Nat.le_of_ble_eq_true rfl | (simp at hb;first | omega | (dsimp only;omega) | (simp <;> omega)) | omega | (dsimp only;omega)) (fun h=>(by first | rfl | cases h))) (rfl)) rfl rfl rfl rfl (pre1 rfl) rfl rfl ?_
  | refine hq_k 62 59 false (HOp.val (v':=intV ((routeV L []) s.t (-1)).1.pos) (hop_load_fp ty_3 rfl (by first | exact Nat.le_of_ble_eq_true rfl | (simp at hb;first | omega | (dsimp only;omega) | (simp <;> omega)) | omega | (dsimp only;omega)) (fun h=>(by first | rfl | cases h))) (rfl)) rfl rfl rfl rfl pre0 rfl rfl ?_
  refine hm_k 63 59 false (hop_funD (xs:=[_,_,_,_]) (pre:=[(9201,_),(9301,_),(9302,_),(9101,_),(9102,_)]) (kindN_h _ false g g2 L hL hok _ _ s (outV (routeV L []) s) ((routeV L []) s.t (-1)).1.pos hs hba) ((clocks_cons (id':=9201) (List.mem_cons_self ..) rfl (clocks_cons (id':=9301) (List.mem_cons_of_mem _ (List.mem_cons_self ..)) rfl (clocks_cons (id':=9302) (List.mem_cons_of_mem _ (List.mem_cons_of_mem _ (List.mem_cons_self ..))) rfl (fun id o h=>⟨_,List.mem_cons_of_mem _ (List.mem_cons_of_mem _ (List.mem_cons_of_mem _ (hget_mem h))),rfl⟩))))) ⟨rfl,⟨rfl,⟨rfl,⟨rfl,trivial⟩⟩⟩⟩) rfl rfl rfl rfl (preC rfl (preC rfl (preC rfl (preC rfl (preC rfl pre0))))) rfl rfl (c':=c+39) rfl ?_
  refine hq_k 64 59 false (hop_not rfl) rfl rfl rfl rfl pre0 rfl rfl ?_
  refine s0 (hop_pick_f rfl rfl) ?_
  refine sm ?_
  first
  | refine stg 66 (fun hb=>hop_move rfl) rfl rfl rfl rfl rfl ?_
  | refine sth 66 (fun hb=>hop_move rfl) rfl rfl rfl rfl rfl ?_
  first
  | refine stg 66 (fun hb=>hop_nilcheck_pt rfl) rfl rfl rfl rfl rfl ?_
  | refine sth 66 (fun hb=>hop_nilcheck_pt rfl) rfl rfl rfl rfl rfl ?_
  | refine stg 66 (fun hb=>hop_nilcheck_fp rfl) rfl rfl rfl rfl rfl ?_
  | refine sth 66 (fun hb=>hop_nilcheck_fp rfl) rfl rfl rfl rfl rfl ?_
  first
  | refine stg 66 (fun hb=>hop_fa fd_99_1 rfl) rfl rfl rfl rfl rfl ?_
  | refine sth 66 (fun hb=>hop_fa fd_99_1 rfl) rfl rfl rfl rfl rfl ?_
  | refine stg 66 (fun hb=>hop_fa_fp fd_99_1 rfl (by first | exact Nat.le_of_ble_eq_true rfl | (simp at hb;first | omega | (dsimp only;omega) | (simp <;> omega)) | omega | (dsimp only;omega))) rfl rfl rfl rfl rfl ?_
  | refine sth 66 (fun hb=>hop_fa_fp fd_99_1 rfl (by first | exact Nat.le_of_ble_eq_true rfl | (simp at hb;first | omega | (dsimp only;omega) | (simp <;> omega)) | omega | (dsimp only;omega))) rfl rfl rfl rfl rfl ?_
  first
  | refine hq_g 70 19 66 false _ (fun hb=>HOp.val (v':=boolV (kV (routeV L []) s).2.2) (hol_load ty_4 rfl (by first | exact Nat.le_of_ble_eq_true rfl | (simp at hb;first | omega | (dsimp only;omega) | (simp <;> omega)) | omega | (dsimp only;omega)) (by first | exact Nat.le_of_ble_eq_true rfl | (simp at hb;first | omega | (dsimp only;omega) | (simp <;> omega)) | omega | (dsimp only;omega)) (fun h=>(by first | rfl | cases h))) (rfl)) rfl rfl rfl rfl (pre1 rfl) rfl rfl rfl ?_
  | refine hq_g2 70 19 66 _ _ false _ (fun hb=>HOp.val (v':=boolV (kV (routeV L []) s).2.2) (hol_load ty_4 rfl (by first | exact Nat.le_of_ble_eq_true rfl | (simp at hb;first | omega | (dsimp only;omega) | (simp <;> omega)) | omega | (dsimp only;omega)) (by first | exact Nat.le_of_ble_eq_true rfl | (simp at hb;first | omega | (dsimp only;omega) | (simp <;> omega)) | omega | (dsimp only;omega)) (fun h=>(by first | rfl | cases h))) (rfl)) rfl rfl rfl rfl (pre1 rfl) rfl rfl rfl ?_
  | refine stg 66 (fun hb=>HOp.val (v':=boolV (kV (routeV L []) s).2.2) (hop_load_fp ty_4 rfl (by first | exact Nat.le_of_ble_eq_true rfl | (simp at hb;first | omega | (dsimp only;omega) | (simp <;> omega)) | omega | (dsimp only;omega)) (fun h=>(by first | rfl | cases h))) (rfl)) rfl rfl rfl rfl rfl ?_
  | refine sth 66 (fun hb=>HOp.val (v':=boolV (kV (routeV L []) s).2.2) (hop_load_fp ty_4 rfl (by first | exact Nat.le_of_ble_eq_true rfl | (simp at hb;first | omega | (dsimp only;omega) | (simp <;> omega)) | omega | (dsimp only;omega)) (fun h=>(by first | rfl | cases h))) (rfl)) rfl rfl rfl rfl rfl ?_
  first
  | refine hq_p 71 (hstep_and _ _ rfl rfl rfl) rfl rfl rfl ?_
  | refine hq_p 71 (hstep_or _ _ rfl rfl rfl) rfl rfl rfl ?_
  | refine hq_p 71 (hstep_ite _ _ _ rfl rfl rfl) rfl rfl rfl ?_
  | refine hq_p 71 (hstep_pick _ _ _ _ rfl rfl rfl (fun _=>.refl _) (fun _=>.refl _)) rfl rfl rfl ?_
  refine sm ?_
  first
  | refine hq_g 73 25 72 false _ (fun hb=>HOp.val (v':=stV (kV (routeV L []) s).2.1) (hol_load ty_26 rfl (by first | exact Nat.le_of_ble_eq_true rfl | (simp at hb;first | omega | (dsimp only;omega) | (simp <;> omega)) | omega | (dsimp only;omega)) (by first | exact Nat.le_of_ble_eq_true rfl | (simp at hb;first | omega | (dsimp only;omega) | (simp <;> omega)) | omega | (dsimp only;omega)) (fun h=>(by first | rfl | cases h))) (rfl)) rfl rfl rfl rfl (pre1 rfl) rfl rfl rfl ?_
  | refine hq_g2 73 25 72 _ _ false _ (fun hb=>HOp.val (v':=stV (kV (routeV L []) s).2.1) (hol_load ty_26 rfl (by first | exact Nat.le_of_ble_eq_true rfl | (simp at hb;first | omega | (dsimp only;omega) | (simp <;> omega)) | omega | (dsimp only;omega)) (by first | exact Nat.le_of_ble_eq_true rfl | (simp at hb;first | omega | (dsimp only;omega) | (simp <;> omega)) | omega | (dsimp only;omega)) (fun h=>(by first | rfl | cases h))) (rfl)) rfl rfl rfl rfl (pre1 rfl) rfl rfl rfl ?_
  | refine stg 72 (fun hb=>HOp.val (v':=stV (kV (routeV L []) s).2.1) (hop_load_fp ty_26 rfl (by first | exact Nat.le_of_ble_eq_true rfl | (simp at hb;first | omega | (dsimp only;omega) | (simp <;> omega)) | omega | (dsimp only;omega)) (fun h=>(by first | rfl | cases h))) (rfl)) rfl rfl rfl rfl rfl ?_
  | refine sth 72 (fun hb=>HOp.val (v':=stV (kV (routeV L []) s).2.1) (hop_load_fp ty_26 rfl (by first | exact Nat.le_of_ble_eq_true rfl | (simp at hb;first | omega | (dsimp only;omega) | (simp <;> omega)) | omega | (dsimp only;omega)) (fun h=>(by first | rfl | cases h))) (rfl)) rfl rfl rfl rfl rfl ?_
  first
  | refine stg 72 (fun hb=>hop_call0 (xs:=[_]) (shape_h (kV (routeV L []) s).2.1 (by rw [kV_len.1];omega) (by rw [kV_len.2];omega)) ⟨rfl,trivial⟩ ⟨(Fz.eq rfl),trivial⟩) rfl rfl rfl rfl rfl ?_
  | refine sth 72 (fun hb=>hop_call0 (xs:=[_]) (shape_h (kV (routeV L []) s).2.1 (by rw [kV_len.1];omega) (by rw [kV_len.2];omega)) ⟨rfl,trivial⟩ ⟨(Fz.eq rfl),trivial⟩) rfl rfl rfl rfl rfl ?_
  first
  | refine stg 72 (fun hb=>hop_not rfl) rfl rfl rfl rfl rfl ?_
  | refine sth 72 (fun hb=>hop_not rfl) rfl rfl rfl rfl rfl ?_
  first
  | refine hq_p 76 (hstep_and _ _ rfl rfl rfl) rfl rfl rfl ?_
  | refine hq_p 76 (hstep_or _ _ rfl rfl rfl) rfl rfl rfl ?_
  | refine hq_p 76 (hstep_ite _ _ _ rfl rfl rfl) rfl rfl rfl ?_
  | refine hq_p 76 (hstep_pick _ _ _ _ rfl rfl rfl (fun _=>.refl _) (fun _=>.refl _)) rfl rfl rfl ?_
  refine nu ?_
  refine h11 _ ?_
  refine wc (fun hc1=>?_) (fun hc1=>?_)
  ·have hr1:=hc1;(try simp only [hcs,Int.reduceToNat] at hc1)
   have hn:¬ ((kV (routeV L []) s).1=true∧(kV (routeV L []) s).2.2=false∧(kV (routeV L []) s).2.1.shape=true):=(by rintro ⟨h1,h2,h3⟩;have h9:((!(kV (routeV L []) s).1||(kV (routeV L []) s).2.2)||!(kV (routeV L []) s).2.1.shape)=true:=hr1;rw [h1,h2,h3] at h9;cases h9)
   refine srg fun N h13=>?_
   refine s0 (hop_build (hs:=[]) st_26 rfl rfl trivial) ?_
   first
   | refine hm_s1 (hol_storeW ty_26 rfl rfl rfl rfl) rfl rfl (pre1 rfl) (c':=c+40) rfl ?_
   | refine hm_s1 (hol_store ty_26 rfl rfl rfl rfl (by first | exact Nat.le_of_ble_eq_true rfl | omega | (dsimp only;omega) | (simp <;> omega)) (by first | exact Nat.le_of_ble_eq_true rfl | omega | (dsimp only;omega) | (simp <;> omega)) (by first | exact Nat.le_of_ble_eq_true rfl | omega | (dsimp only;omega) | (simp <;> omega))) rfl rfl (pre1 rfl) (c':=c+40) rfl ?_
   refine sa<|snl h13<|hw_ret<|hq_then_ret ?_
   refine hf_retR2 ok hX RetS.one rfl (rvl_cell rfl rfl ty_26 rqc rfl rfl) (rval_tmp rfl) [] rfl pre0 (()) (trivial) (by rfl) (by rfl) ((by rw [byV_no hn];exact .fz _ _ (fz_t2 (fz_agg10 fzc fzc fzc fzc fzc fzc fzc fzc fzc fzc) (.imm _)))) ?_
   exact ⟨⟨_,rfl,(okz_rtN rfl rfl rfl rfl rfl)⟩,⟨⟨_,rfl,okz_mps⟩,trivial⟩⟩
  have hr1:=hc1;(try simp only [hcs,Int.reduceToNat] at hc1)
  have hy:(kV (routeV L []) s).1=true∧(kV (routeV L []) s).2.2=false∧(kV (routeV L []) s).2.1.shape=true:=(by have h9:((!(kV (routeV L []) s).1||(kV (routeV L []) s).2.2)||!(kV (routeV L []) s).2.1.shape)=false:=hr1;cases e1:(kV (routeV L []) s).1 <;> cases e2:(kV (routeV L []) s).2.2 <;> cases e3:(kV (routeV L []) s).2.1.shape <;> first | exact ⟨rfl,rfl,rfl⟩ | (rw [e1,e2,e3] at h9;cases h9))
  refine hw_skip<|h10 _<|srg fun N h14=>?_
  first
  | refine hq_ 78 (hol_load ty_26 rfl (by first | exact Nat.le_of_ble_eq_true rfl | omega | (dsimp only;omega) | (simp <;> omega)) (by first | exact Nat.le_of_ble_eq_true rfl | omega | (dsimp only;omega) | (simp <;> omega)) (fun h=>(by first | rfl | cases h))) rfl rfl (pre1 rfl) rfl rfl ?_
  | refine hq_ 78 (hop_load_fp ty_26 rfl (by first | exact Nat.le_of_ble_eq_true rfl | omega | (dsimp only;omega) | (simp <;> omega)) (fun h=>(by first | rfl | cases h))) rfl rfl pre0 rfl rfl ?_
  first
  | refine hm_s1 (hol_storeW ty_26 rfl rfl rfl rfl) rfl rfl (pre1 rfl) (c':=c+40) rfl ?_
  | refine hm_s1 (hol_store ty_26 rfl rfl rfl rfl (by first | exact Nat.le_of_ble_eq_true rfl | omega | (dsimp only;omega) | (simp <;> omega)) (by first | exact Nat.le_of_ble_eq_true rfl | omega | (dsimp only;omega) | (simp <;> omega)) (by first | exact Nat.le_of_ble_eq_true rfl | omega | (dsimp only;omega) | (simp <;> omega))) rfl rfl (pre1 rfl) (c':=c+40) rfl ?_
  refine sa<|snl h14<|hw_ret ?_
  refine hf_retR2 ok hX RetS.one rfl (rvl_cell rfl rfl ty_26 rqc rfl rfl) (rval_tmp rfl) [] rfl pre0 (()) (trivial) (by rfl) (by rfl) ((by rw [byV_yes hs hg hy];exact .fz _ _ (fz_t2 (fz_agg10 fzc fzc fzc fzc fzc fzc fzc fzc (by exact fz_toks (kV (routeV L []) s).2.1.sl) (by exact fz_mkss (kV (routeV L []) s).2.1.sets)) (.imm _)))) ?_
  exact ⟨⟨_,rfl,(okz_rtN rfl rfl rfl rfl rfl)⟩,⟨⟨_,rfl,okz_mps⟩,trivial⟩⟩
theorem thrN_h (g g2:Nat) (L:List (List Rg)) (hL:L.length≤100000) (hok:RtOk L []) (s:St) (l1:s.sl.length≤20000) (l2:s.sets.length≤20000) {o:Option St} (ho:byV (routeV L []) s=o):HFunD Try.prog 15 [stV s,.pt 9101 g 0 0] [(9101,rtO g (.os 9102 g2 0 L.length) (.imm (.map none))),(9102,mpsO g2 L)] (optV o) [(9101,rtO g (.os 9102 g2 0 L.length) (.imm (.map none))),(9102,mpsO g2 L)]:=by
 intro c
 subst ho
 refine hfun_of Try.func15 rfl kr _ _ _ _ rfl 15 rfl rfl (fun X ok hX=>?_)
 refine srg fun N h1=>?_
 refine hm_1 2 (hop_box (id:=2) (sz:=10) rfl rfl rfl omx omx) rfl rfl pre0 rfl rfl (c':=c+1) rfl ?_
 refine hm_1 4 (hop_alloc (id:=4) (sz:=10) zc_26 rfl rfl omx omx) rfl rfl pre0 rfl rfl (c':=c+2) rfl ?_
 refine sa<|snl h1<|hw_seq fun Nh2 h2=>srg fun N h3=>sm ?_
 first
 | refine hq_ 7 (hop_eql_ptn (by kernel_rfl) rfl rfl) rfl rfl pre0 rfl rfl ?_
 | refine hq_ 7 (hop_eql_fpn (by kernel_rfl) rfl rfl) rfl rfl pre0 rfl rfl ?_
 | refine hq_ 7 (hop_eql_nnp (by kernel_rfl) rfl rfl) rfl rfl pre0 rfl rfl ?_
 | refine hq_ 7 (hop_eql_fp rfl rfl rfl) rfl rfl pre0 rfl rfl ?_
 | refine hq_ 7 (hop_eql_pn rfl rfl rfl) rfl rfl pre0 rfl rfl ?_
 refine snl h3 ?_
 refine wc (fun hc0=>?_) (fun hc0=>?_)
 ·have hr0:=hc0;(try simp only [hcs,Int.reduceToNat] at hc0)
  exfalso;simp at hr0
 have hr0:=hc0;(try simp only [hcs,Int.reduceToNat] at hc0)
 refine hw_skip<|h2 _<|hw_seq fun Nh4 h4=>?_
 rcases hby:byV (routeV L []) s with _ | y
 ·skip
  refine hw_region ?_
  first
  | refine hq_ 9 (hol_load ty_26 rfl (by first | exact Nat.le_of_ble_eq_true rfl | omega | (dsimp only;omega) | (simp <;> omega)) (by first | exact Nat.le_of_ble_eq_true rfl | omega | (dsimp only;omega) | (simp <;> omega)) (fun h=>(by first | rfl | cases h))) rfl rfl (pre1 rfl) rfl rfl ?_
  | refine hq_ 9 (hop_load_fp ty_26 rfl (by first | exact Nat.le_of_ble_eq_true rfl | omega | (dsimp only;omega) | (simp <;> omega)) (fun h=>(by first | rfl | cases h))) rfl rfl pre0 rfl rfl ?_
  refine sm ?_
  refine s0 (hop_makeBound rfl) ?_
  refine hf_callR 12 (xs:=[_,_]) (pre:=[(9101,_),(9102,_)]) ((hby▸byN_h g g2 L hL hok s l1 l2) _) ⟨rfl,⟨rfl,trivial⟩⟩ (preC rfl (preC rfl pre0)) rfl rfl (fun x1 c1 hx1=>?_)
  (try dsimp only)
  refine s0 hex ?_
  refine s0 hex ?_
  first
  | refine hm_s1 (hol_storeW ty_26 rfl rfl rfl rfl) rfl rfl (pre1 rfl) (c':=c1+1) rfl ?_
  | refine hm_s1 (hol_store ty_26 rfl rfl rfl rfl (by first | exact Nat.le_of_ble_eq_true rfl | omega | (dsimp only;omega) | (simp <;> omega)) (by first | exact Nat.le_of_ble_eq_true rfl | omega | (dsimp only;omega) | (simp <;> omega)) (by first | exact Nat.le_of_ble_eq_true rfl | omega | (dsimp only;omega) | (simp <;> omega))) rfl rfl (pre1 rfl) (c':=c1+1) rfl ?_
  refine sa<|snl h4<|hw_ret ?_
  refine hf_retR2 ok hX RetS.one rfl (rvl_cell rfl rfl ty_26 rqc rfl rfl) (rval_tmp rfl) [] rfl pre0 (()) (trivial) (by rfl) (by rfl) ((by rw [hby];exact .fz _ _ (fz_t2 (fz_agg10 fzc fzc fzc fzc fzc fzc fzc fzc (by exact fz_toks St.none.sl) (by exact fz_mkss St.none.sets)) (.imm _)))) ?_
  exact ⟨⟨_,rfl,(okz_rtN rfl rfl rfl rfl rfl)⟩,⟨⟨_,rfl,okz_mps⟩,trivial⟩⟩
 ·skip
  refine hw_region ?_
  first
  | refine hq_ 9 (hol_load ty_26 rfl (by first | exact Nat.le_of_ble_eq_true rfl | omega | (dsimp only;omega) | (simp <;> omega)) (by first | exact Nat.le_of_ble_eq_true rfl | omega | (dsimp only;omega) | (simp <;> omega)) (fun h=>(by first | rfl | cases h))) rfl rfl (pre1 rfl) rfl rfl ?_
  | refine hq_ 9 (hop_load_fp ty_26 rfl (by first | exact Nat.le_of_ble_eq_true rfl | omega | (dsimp only;omega) | (simp <;> omega)) (fun h=>(by first | rfl | cases h))) rfl rfl pre0 rfl rfl ?_
  refine sm ?_
  refine s0 (hop_makeBound rfl) ?_
  refine hf_callR 12 (xs:=[_,_]) (pre:=[(9101,_),(9102,_)]) ((hby▸byN_h g g2 L hL hok s l1 l2) _) ⟨rfl,⟨rfl,trivial⟩⟩ (preC rfl (preC rfl pre0)) rfl rfl (fun x2 c2 hx2=>?_)
  (try dsimp only)
  refine s0 hex ?_
  refine s0 hex ?_
  first
  | refine hm_s1 (hol_storeW ty_26 rfl rfl rfl rfl) rfl rfl (pre1 rfl) (c':=c2+1) rfl ?_
  | refine hm_s1 (hol_store ty_26 rfl rfl rfl rfl (by first | exact Nat.le_of_ble_eq_true rfl | omega | (dsimp only;omega) | (simp <;> omega)) (by first | exact Nat.le_of_ble_eq_true rfl | omega | (dsimp only;omega) | (simp <;> omega)) (by first | exact Nat.le_of_ble_eq_true rfl | omega | (dsimp only;omega) | (simp <;> omega))) rfl rfl (pre1 rfl) (c':=c2+1) rfl ?_
  refine sa<|snl h4<|hw_ret ?_
  refine hf_retR2 ok hX RetS.one rfl (rvl_cell rfl rfl ty_26 rqc rfl rfl) (rval_tmp rfl) [] rfl pre0 (()) (trivial) (by rfl) (by rfl) ((by rw [hby];exact .fz _ _ (fz_t2 (fz_agg10 fzc fzc fzc fzc fzc fzc fzc fzc (by exact fz_toks y.sl) (by exact fz_mkss y.sets)) (.imm _)))) ?_
  exact ⟨⟨_,rfl,(okz_rtN rfl rfl rfl rfl rfl)⟩,⟨⟨_,rfl,okz_mps⟩,trivial⟩⟩
theorem byM_h (g g2 g3:Nat) (L:List (List Rg)) (mir:List (Int×Int)) (hL:L.length≤100000) (hok:RtOk L mir) (s:St) (l1:s.sl.length≤20000) (l2:s.sets.length≤20000):HFunD Try.prog 24 [stV s,.bnd (.func 25) (.pt 9101 g 0 0)] [(9101,rtO g (.os 9102 g2 0 L.length) (.mp 9103 g3)),(9102,mpsO g2 L),(9103,mirO g3 mir)] (optV (byV (routeV L mir) s)) [(9101,rtO g (.os 9102 g2 0 L.length) (.mp 9103 g3)),(9102,mpsO g2 L),(9103,mirO g3 mir)]:=by
 intro c
 have htl:TlOk (routeV L mir):=tlok_route hok
 refine hfun_of Try.func24 rfl kr _ _ _ _ rfl 79 rfl rfl (fun X ok hX=>?_)
 refine srg fun N h1=>?_
 refine hm_1 2 (hop_box (id:=9301) (sz:=10) rfl rfl rfl (by decide) (by decide)) rfl rfl pre0 rfl rfl (c':=c+1) rfl ?_
 refine hm_1 4 (hop_alloc (id:=4) (sz:=10) zc_26 rfl rfl omx omx) rfl rfl pre0 rfl rfl (c':=c+2) rfl ?_
 refine sa<|snl h1<|hw_seq fun Nh2 h2=>srg fun N h3=>sm ?_
 refine s0 (hop_eql_bn (fun f t b w=>by kernel_rfl) rfl rfl) ?_
 refine sm ?_
 first
 | refine hq_g 13 2 12 false _ (fun hb=>hol_load ty_26 rfl (by first | exact Nat.le_of_ble_eq_true rfl | (simp at hb;first | omega | (dsimp only;omega) | (simp <;> omega)) | omega | (dsimp only;omega)) (by first | exact Nat.le_of_ble_eq_true rfl | (simp at hb;first | omega | (dsimp only;omega) | (simp <;> omega)) | omega | (dsimp only;omega)) (fun h=>(by first | rfl | cases h))) rfl rfl rfl rfl (pre1 rfl) rfl rfl rfl ?_
 | refine hq_g2 13 2 12 _ _ false _ (fun hb=>hol_load ty_26 rfl (by first | exact Nat.le_of_ble_eq_true rfl | (simp at hb;first | omega | (dsimp only;omega) | (simp <;> omega)) | omega | (dsimp only;omega)) (by first | exact Nat.le_of_ble_eq_true rfl | (simp at hb;first | omega | (dsimp only;omega) | (simp <;> omega)) | omega | (dsimp only;omega)) (fun h=>(by first | rfl | cases h))) rfl rfl rfl rfl (pre1 rfl) rfl rfl rfl ?_
 | refine stg 12 (fun hb=>hop_load_fp ty_26 rfl (by first | exact Nat.le_of_ble_eq_true rfl | (simp at hb;first | omega | (dsimp only;omega) | (simp <;> omega)) | omega | (dsimp only;omega)) (fun h=>(by first | rfl | cases h))) rfl rfl rfl rfl rfl ?_
 | refine sth 12 (fun hb=>hop_load_fp ty_26 rfl (by first | exact Nat.le_of_ble_eq_true rfl | (simp at hb;first | omega | (dsimp only;omega) | (simp <;> omega)) | omega | (dsimp only;omega)) (fun h=>(by first | rfl | cases h))) rfl rfl rfl rfl rfl ?_
 first
 | refine stg 12 (fun hb=>hop_call0 (xs:=[_]) (shape_h s (by omega) (by omega)) ⟨rfl,trivial⟩ ⟨(Fz.eq rfl),trivial⟩) rfl rfl rfl rfl rfl ?_
 | refine sth 12 (fun hb=>hop_call0 (xs:=[_]) (shape_h s (by omega) (by omega)) ⟨rfl,trivial⟩ ⟨(Fz.eq rfl),trivial⟩) rfl rfl rfl rfl rfl ?_
 first
 | refine stg 12 (fun hb=>hop_not rfl) rfl rfl rfl rfl rfl ?_
 | refine sth 12 (fun hb=>hop_not rfl) rfl rfl rfl rfl rfl ?_
 first
 | refine hq_p 16 (hstep_and _ _ rfl rfl rfl) rfl rfl rfl ?_
 | refine hq_p 16 (hstep_or _ _ rfl rfl rfl) rfl rfl rfl ?_
 | refine hq_p 16 (hstep_ite _ _ _ rfl rfl rfl) rfl rfl rfl ?_
 | refine hq_p 16 (hstep_pick _ _ _ _ rfl rfl rfl (fun _=>.refl _) (fun _=>.refl _)) rfl rfl rfl ?_
 refine nu ?_
 refine h3 _ ?_
 refine wc (fun hc0=>?_) (fun hc0=>?_)
 ·have hr0:=hc0;(try simp only [hcs,Int.reduceToNat] at hc0)
  have hs:¬ s.shape=true:=(by simpa using hr0)
  refine srg fun N h4=>?_
  refine s0 (hop_build (hs:=[]) st_26 rfl rfl trivial) ?_
  first
  | refine hm_s1 (hol_storeW ty_26 rfl rfl rfl rfl) rfl rfl (pre1 rfl) (c':=c+3) rfl ?_
  | refine hm_s1 (hol_store ty_26 rfl rfl rfl rfl (by first | exact Nat.le_of_ble_eq_true rfl | omega | (dsimp only;omega) | (simp <;> omega)) (by first | exact Nat.le_of_ble_eq_true rfl | omega | (dsimp only;omega) | (simp <;> omega)) (by first | exact Nat.le_of_ble_eq_true rfl | omega | (dsimp only;omega) | (simp <;> omega))) rfl rfl (pre1 rfl) (c':=c+3) rfl ?_
  refine sa<|snl h4<|hw_ret<|hq_then_ret ?_
  refine hf_retR2 ok hX RetS.one rfl (rvl_cell rfl rfl ty_26 rqc rfl rfl) (rval_tmp rfl) [] rfl pre0 (()) (trivial) (by rfl) (by rfl) ((by rw [byV_shape hs];exact .fz _ _ (fz_t2 (fz_agg10 fzc fzc fzc fzc fzc fzc fzc fzc fzc fzc) (.imm _)))) ?_
  exact ⟨⟨_,rfl,(okz_rtM rfl rfl rfl rfl rfl rfl rfl)⟩,⟨⟨_,rfl,okz_mps⟩,⟨⟨_,rfl,okz_map⟩,trivial⟩⟩⟩
 have hr0:=hc0;(try simp only [hcs,Int.reduceToNat] at hc0)
 have hs:s.shape=true:=(by simpa using hr0);obtain ⟨q1,q2,q3,q4,q5⟩:=shape_in hs;have hba:=htl s.f 1 om om;have hbb:=htl s.t (-1) om om
 refine hw_skip<|h2 _<|srg fun N h5=>sm ?_
 refine s0 (hop_build (hs:=[(0,1,_)]) st_99 rfl rfl ⟨rfl,rfl,rfl,rfl,rfl,trivial⟩) ?_
 refine hm_1 20 (hop_box (id:=9201) (sz:=2) rfl rfl rfl (by decide) (by decide)) rfl rfl pre0 rfl rfl (c':=c+3) rfl ?_
 refine sa<|snl h5<|hw_seq fun Nh6 h6=>?_
 refine (hsub_ob 9201 (shO _ g false) rfl (osub_sh0 (b:=false) rfl rfl rfl)).wp ?_
 refine hd_start ?_
 refine dm 1 ?_
 first
 | refine hd_q 22 (hop_fa fd_26_1 rfl) rfl rfl pre0 rfl rfl (k':=2) rfl ?_
 | refine hd_q 22 (hop_fa_fp fd_26_1 rfl (by first | exact Nat.le_of_ble_eq_true rfl | omega | (dsimp only;omega) | (simp <;> omega))) rfl rfl pre0 rfl rfl (k':=2) rfl ?_
 first
 | refine hd_q 23 (HOp.val (v':=intV s.f) (hol_load ty_3 rfl (by first | exact Nat.le_of_ble_eq_true rfl | omega | (dsimp only;omega) | (simp <;> omega)) (by first | exact Nat.le_of_ble_eq_true rfl | omega | (dsimp only;omega) | (simp <;> omega)) (fun h=>(by first | rfl | cases h))) (rfl)) rfl rfl (pre1 rfl) rfl rfl (k':=3) rfl ?_
 | refine hd_q 23 (HOp.val (v':=intV s.f) (hop_load_fp ty_3 rfl (by first | exact Nat.le_of_ble_eq_true rfl | omega | (dsimp only;omega) | (simp <;> omega)) (fun h=>(by first | rfl | cases h))) (rfl)) rfl rfl pre0 rfl rfl (k':=3) rfl ?_
 refine hd_m 24 (hop_funD (xs:=[_,_,_]) (pre:=[(9201,_),(9101,_),(9102,_),(9103,_)]) (atM_h _ false g g2 g3 L mir hL hok s.f 1) ((clocks_cons (id':=9201) (List.mem_cons_self ..) rfl (fun id o h=>⟨_,List.mem_cons_of_mem _ (hget_mem h),rfl⟩))) ⟨rfl,⟨rfl,⟨rfl,trivial⟩⟩⟩) rfl rfl (preC rfl (preC rfl (preC rfl (preC rfl pre0)))) rfl rfl (k':=4) rfl ?_
 refine dm 5 ?_
 first
 | refine hd_q 26 (hop_fa fd_26_2 rfl) rfl rfl pre0 rfl rfl (k':=6) rfl ?_
 | refine hd_q 26 (hop_fa_fp fd_26_2 rfl (by first | exact Nat.le_of_ble_eq_true rfl | omega | (dsimp only;omega) | (simp <;> omega))) rfl rfl pre0 rfl rfl (k':=6) rfl ?_
 first
 | refine hd_q 27 (HOp.val (v':=intV s.t) (hol_load ty_3 rfl (by first | exact Nat.le_of_ble_eq_true rfl | omega | (dsimp only;omega) | (simp <;> omega)) (by first | exact Nat.le_of_ble_eq_true rfl | omega | (dsimp only;omega) | (simp <;> omega)) (fun h=>(by first | rfl | cases h))) (rfl)) rfl rfl (pre1 rfl) rfl rfl (k':=7) rfl ?_
 | refine hd_q 27 (HOp.val (v':=intV s.t) (hop_load_fp ty_3 rfl (by first | exact Nat.le_of_ble_eq_true rfl | omega | (dsimp only;omega) | (simp <;> omega)) (fun h=>(by first | rfl | cases h))) (rfl)) rfl rfl pre0 rfl rfl (k':=7) rfl ?_
 refine hd_m 28 (hop_funD (xs:=[_,_,_]) (pre:=[(9201,_),(9101,_),(9102,_),(9103,_)]) (atM_h _ (false||decide (((routeV L mir) s.f 1).2≠0)) g g2 g3 L mir hL hok s.t (-1)) ((clocks_cons (id':=9201) (List.mem_cons_self ..) rfl (fun id o h=>⟨_,List.mem_cons_of_mem _ (hget_mem h),rfl⟩))) ⟨rfl,⟨rfl,⟨rfl,trivial⟩⟩⟩) rfl rfl (preC rfl (preC rfl (preC rfl (preC rfl pre0)))) rfl rfl (k':=8) rfl ?_
 refine hd_1 7 (hop_alloc (id:=7) (sz:=5) zc_100 rfl rfl omx omx) rfl rfl pre0 rfl rfl (k':=9) rfl ?_
 refine hd_1 8 (hop_alloc (id:=8) (sz:=5) zc_100 rfl rfl omx omx) rfl rfl pre0 rfl rfl (k':=10) rfl ?_
 first
 | refine hd_s1 (hol_storeW ty_100 rfl rfl rfl rfl) rfl rfl (pre1 rfl) (k':=11) rfl ?_
 | refine hd_s1 (hol_store ty_100 rfl rfl rfl rfl (by first | exact Nat.le_of_ble_eq_true rfl | omega | (dsimp only;omega) | (simp <;> omega)) (by first | exact Nat.le_of_ble_eq_true rfl | omega | (dsimp only;omega) | (simp <;> omega)) (by first | exact Nat.le_of_ble_eq_true rfl | omega | (dsimp only;omega) | (simp <;> omega))) rfl rfl (pre1 rfl) (k':=11) rfl ?_
 first
 | refine hd_s1 (hol_storeW ty_100 rfl rfl rfl rfl) rfl rfl (pre1 rfl) (k':=12) rfl ?_
 | refine hd_s1 (hol_store ty_100 rfl rfl rfl rfl (by first | exact Nat.le_of_ble_eq_true rfl | omega | (dsimp only;omega) | (simp <;> omega)) (by first | exact Nat.le_of_ble_eq_true rfl | omega | (dsimp only;omega) | (simp <;> omega)) (by first | exact Nat.le_of_ble_eq_true rfl | omega | (dsimp only;omega) | (simp <;> omega))) rfl rfl (pre1 rfl) (k':=12) rfl ?_
 refine hd_nil kr kr (c':=c+15) rfl ?_
 refine h6 _<|srg fun N h7=>?_
 first
 | refine hq_ 29 (hol_load ty_26 rfl (by first | exact Nat.le_of_ble_eq_true rfl | omega | (dsimp only;omega) | (simp <;> omega)) (by first | exact Nat.le_of_ble_eq_true rfl | omega | (dsimp only;omega) | (simp <;> omega)) (fun h=>(by first | rfl | cases h))) rfl rfl (pre1 rfl) rfl rfl ?_
 | refine hq_ 29 (hop_load_fp ty_26 rfl (by first | exact Nat.le_of_ble_eq_true rfl | omega | (dsimp only;omega) | (simp <;> omega)) (fun h=>(by first | rfl | cases h))) rfl rfl pre0 rfl rfl ?_
 refine hm_1 9 (hop_alloc (id:=9302) (sz:=10) zc_26 rfl rfl (by decide) (by decide)) rfl rfl pre0 rfl rfl (c':=c+16) rfl ?_
 first
 | refine hm_s1 (hol_storeW ty_26 rfl rfl rfl rfl) rfl rfl (pre1 rfl) (c':=c+17) rfl ?_
 | refine hm_s1 (hol_store ty_26 rfl rfl rfl rfl (by first | exact Nat.le_of_ble_eq_true rfl | omega | (dsimp only;omega) | (simp <;> omega)) (by first | exact Nat.le_of_ble_eq_true rfl | omega | (dsimp only;omega) | (simp <;> omega)) (by first | exact Nat.le_of_ble_eq_true rfl | omega | (dsimp only;omega) | (simp <;> omega))) rfl rfl (pre1 rfl) (c':=c+17) rfl ?_
 refine snl h7<|hw_seq fun Nh8 h8=>hd_start ?_
 first
 | refine hd_q 30 (hop_fa fd_26_8 rfl) rfl rfl pre0 rfl rfl (k':=1) rfl ?_
 | refine hd_q 30 (hop_fa_fp fd_26_8 rfl (by first | exact Nat.le_of_ble_eq_true rfl | omega | (dsimp only;omega) | (simp <;> omega))) rfl rfl pre0 rfl rfl (k':=1) rfl ?_
 first
 | refine hd_q 31 (HOp.val (v':=toksV s.sl) (hol_load ty_22 rfl (by first | exact Nat.le_of_ble_eq_true rfl | omega | (dsimp only;omega) | (simp <;> omega)) (by first | exact Nat.le_of_ble_eq_true rfl | omega | (dsimp only;omega) | (simp <;> omega)) (fun h=>(by first | rfl | cases h))) (rfl)) rfl rfl (pre1 rfl) rfl rfl (k':=2) rfl ?_
 | refine hd_q 31 (HOp.val (v':=toksV s.sl) (hop_load_fp ty_22 rfl (by first | exact Nat.le_of_ble_eq_true rfl | omega | (dsimp only;omega) | (simp <;> omega)) (fun h=>(by first | rfl | cases h))) (rfl)) rfl rfl pre0 rfl rfl (k':=2) rfl ?_
 refine d0 3 (hop_call0 (xs:=[_]) (clont_h s.sl om) ⟨rfl,trivial⟩ ⟨fe,trivial⟩) ?_
 first
 | refine hd_q 33 (hop_fa fd_26_9 rfl) rfl rfl pre0 rfl rfl (k':=4) rfl ?_
 | refine hd_q 33 (hop_fa_fp fd_26_9 rfl (by first | exact Nat.le_of_ble_eq_true rfl | omega | (dsimp only;omega) | (simp <;> omega))) rfl rfl pre0 rfl rfl (k':=4) rfl ?_
 first
 | refine hd_q 34 (HOp.val (v':=mkssV s.sets) (hol_load ty_24 rfl (by first | exact Nat.le_of_ble_eq_true rfl | omega | (dsimp only;omega) | (simp <;> omega)) (by first | exact Nat.le_of_ble_eq_true rfl | omega | (dsimp only;omega) | (simp <;> omega)) (fun h=>(by first | rfl | cases h))) (rfl)) rfl rfl (pre1 rfl) rfl rfl (k':=5) rfl ?_
 | refine hd_q 34 (HOp.val (v':=mkssV s.sets) (hop_load_fp ty_24 rfl (by first | exact Nat.le_of_ble_eq_true rfl | omega | (dsimp only;omega) | (simp <;> omega)) (fun h=>(by first | rfl | cases h))) (rfl)) rfl rfl pre0 rfl rfl (k':=5) rfl ?_
 refine d0 6 (hop_call0 (xs:=[_]) (clonm_h s.sets om) ⟨rfl,trivial⟩ ⟨fe,trivial⟩) ?_
 first
 | refine hd_q 36 (hop_fa fd_26_8 rfl) rfl rfl pre0 rfl rfl (k':=7) rfl ?_
 | refine hd_q 36 (hop_fa_fp fd_26_8 rfl (by first | exact Nat.le_of_ble_eq_true rfl | omega | (dsimp only;omega) | (simp <;> omega))) rfl rfl pre0 rfl rfl (k':=7) rfl ?_
 first
 | refine hd_s1 (hol_storeW ty_22 rfl rfl rfl rfl) rfl rfl (pre1 rfl) (k':=8) rfl ?_
 | refine hd_s1 (hol_store ty_22 rfl rfl rfl rfl (by first | exact Nat.le_of_ble_eq_true rfl | omega | (dsimp only;omega) | (simp <;> omega)) (by first | exact Nat.le_of_ble_eq_true rfl | omega | (dsimp only;omega) | (simp <;> omega)) (by first | exact Nat.le_of_ble_eq_true rfl | omega | (dsimp only;omega) | (simp <;> omega))) rfl rfl (pre1 rfl) (k':=8) rfl ?_
 first
 | refine hd_q 37 (hop_fa fd_26_9 rfl) rfl rfl pre0 rfl rfl (k':=9) rfl ?_
 | refine hd_q 37 (hop_fa_fp fd_26_9 rfl (by first | exact Nat.le_of_ble_eq_true rfl | omega | (dsimp only;omega) | (simp <;> omega))) rfl rfl pre0 rfl rfl (k':=9) rfl ?_
 first
 | refine hd_s1 (hol_storeW ty_24 rfl rfl rfl rfl) rfl rfl (pre1 rfl) (k':=10) rfl ?_
 | refine hd_s1 (hol_store ty_24 rfl rfl rfl rfl (by first | exact Nat.le_of_ble_eq_true rfl | omega | (dsimp only;omega) | (simp <;> omega)) (by first | exact Nat.le_of_ble_eq_true rfl | omega | (dsimp only;omega) | (simp <;> omega)) (by first | exact Nat.le_of_ble_eq_true rfl | omega | (dsimp only;omega) | (simp <;> omega))) rfl rfl (pre1 rfl) (k':=10) rfl ?_
 refine hd_nil kr kr (c':=c+27) rfl ?_
 refine h8 _<|hw_seq fun Nh9 h9=>hd_start ?_
 first
 | refine hd_q 38 (hop_fa fd_100_0 rfl) rfl rfl pre0 rfl rfl (k':=1) rfl ?_
 | refine hd_q 38 (hop_fa_fp fd_100_0 rfl (by first | exact Nat.le_of_ble_eq_true rfl | omega | (dsimp only;omega) | (simp <;> omega))) rfl rfl pre0 rfl rfl (k':=1) rfl ?_
 first
 | refine hd_q 39 (HOp.val (v':=intV ((routeV L mir) s.f 1).1.pos) (hol_load ty_3 rfl (by first | exact Nat.le_of_ble_eq_true rfl | omega | (dsimp only;omega) | (simp <;> omega)) (by first | exact Nat.le_of_ble_eq_true rfl | omega | (dsimp only;omega) | (simp <;> omega)) (fun h=>(by first | rfl | cases h))) (rfl)) rfl rfl (pre1 rfl) rfl rfl (k':=2) rfl ?_
 | refine hd_q 39 (HOp.val (v':=intV ((routeV L mir) s.f 1).1.pos) (hop_load_fp ty_3 rfl (by first | exact Nat.le_of_ble_eq_true rfl | omega | (dsimp only;omega) | (simp <;> omega)) (fun h=>(by first | rfl | cases h))) (rfl)) rfl rfl pre0 rfl rfl (k':=2) rfl ?_
 first
 | refine hd_q 40 (hop_fa fd_100_0 rfl) rfl rfl pre0 rfl rfl (k':=3) rfl ?_
 | refine hd_q 40 (hop_fa_fp fd_100_0 rfl (by first | exact Nat.le_of_ble_eq_true rfl | omega | (dsimp only;omega) | (simp <;> omega))) rfl rfl pre0 rfl rfl (k':=3) rfl ?_
 first
 | refine hd_q 41 (HOp.val (v':=intV ((routeV L mir) s.f 1).1.pos) (hol_load ty_3 rfl (by first | exact Nat.le_of_ble_eq_true rfl | omega | (dsimp only;omega) | (simp <;> omega)) (by first | exact Nat.le_of_ble_eq_true rfl | omega | (dsimp only;omega) | (simp <;> omega)) (fun h=>(by first | rfl | cases h))) (rfl)) rfl rfl (pre1 rfl) rfl rfl (k':=4) rfl ?_
 | refine hd_q 41 (HOp.val (v':=intV ((routeV L mir) s.f 1).1.pos) (hop_load_fp ty_3 rfl (by first | exact Nat.le_of_ble_eq_true rfl | omega | (dsimp only;omega) | (simp <;> omega)) (fun h=>(by first | rfl | cases h))) (rfl)) rfl rfl pre0 rfl rfl (k':=4) rfl ?_
 first
 | refine hd_q 42 (hop_fa fd_100_0 rfl) rfl rfl pre0 rfl rfl (k':=5) rfl ?_
 | refine hd_q 42 (hop_fa_fp fd_100_0 rfl (by first | exact Nat.le_of_ble_eq_true rfl | omega | (dsimp only;omega) | (simp <;> omega))) rfl rfl pre0 rfl rfl (k':=5) rfl ?_
 first
 | refine hd_q 43 (HOp.val (v':=intV ((routeV L mir) s.t (-1)).1.pos) (hol_load ty_3 rfl (by first | exact Nat.le_of_ble_eq_true rfl | omega | (dsimp only;omega) | (simp <;> omega)) (by first | exact Nat.le_of_ble_eq_true rfl | omega | (dsimp only;omega) | (simp <;> omega)) (fun h=>(by first | rfl | cases h))) (rfl)) rfl rfl (pre1 rfl) rfl rfl (k':=6) rfl ?_
 | refine hd_q 43 (HOp.val (v':=intV ((routeV L mir) s.t (-1)).1.pos) (hop_load_fp ty_3 rfl (by first | exact Nat.le_of_ble_eq_true rfl | omega | (dsimp only;omega) | (simp <;> omega)) (fun h=>(by first | rfl | cases h))) (rfl)) rfl rfl pre0 rfl rfl (k':=6) rfl ?_
 refine d0 7 (hop_max rfl rfl) ?_
 first
 | refine hd_q 45 (hop_fa fd_26_1 rfl) rfl rfl pre0 rfl rfl (k':=8) rfl ?_
 | refine hd_q 45 (hop_fa_fp fd_26_1 rfl (by first | exact Nat.le_of_ble_eq_true rfl | omega | (dsimp only;omega) | (simp <;> omega))) rfl rfl pre0 rfl rfl (k':=8) rfl ?_
 first
 | refine hd_s1 (hol_storeW ty_3 rfl rfl rfl rfl) rfl rfl (pre1 rfl) (k':=9) rfl ?_
 | refine hd_s1 (hol_store ty_3 rfl rfl rfl rfl (by first | exact Nat.le_of_ble_eq_true rfl | omega | (dsimp only;omega) | (simp <;> omega)) (by first | exact Nat.le_of_ble_eq_true rfl | omega | (dsimp only;omega) | (simp <;> omega)) (by first | exact Nat.le_of_ble_eq_true rfl | omega | (dsimp only;omega) | (simp <;> omega))) rfl rfl (pre1 rfl) (k':=9) rfl ?_
 first
 | refine hd_q 46 (hop_fa fd_26_2 rfl) rfl rfl pre0 rfl rfl (k':=10) rfl ?_
 | refine hd_q 46 (hop_fa_fp fd_26_2 rfl (by first | exact Nat.le_of_ble_eq_true rfl | omega | (dsimp only;omega) | (simp <;> omega))) rfl rfl pre0 rfl rfl (k':=10) rfl ?_
 first
 | refine hd_s1 (hol_storeW ty_3 rfl rfl rfl rfl) rfl rfl (pre1 rfl) (k':=11) rfl ?_
 | refine hd_s1 (hol_store ty_3 rfl rfl rfl rfl (by first | exact Nat.le_of_ble_eq_true rfl | omega | (dsimp only;omega) | (simp <;> omega)) (by first | exact Nat.le_of_ble_eq_true rfl | omega | (dsimp only;omega) | (simp <;> omega)) (by first | exact Nat.le_of_ble_eq_true rfl | omega | (dsimp only;omega) | (simp <;> omega))) rfl rfl (pre1 rfl) (k':=11) rfl ?_
 refine hd_nil kr kr (c':=c+38) rfl ?_
 refine h9 _<|hw_seq fun Nh10 h10=>hw_seq fun Nh11 h11=>?_
 by_cases hg:gone2 (routeV L mir) s
 ·skip
  refine hw_region<|sm ?_
  first
  | refine hq_ 48 (hop_nilcheck_pt rfl) rfl rfl pre0 rfl rfl ?_
  | refine hq_ 48 (hop_nilcheck_fp rfl) rfl rfl pre0 rfl rfl ?_
  first
  | refine hq_ 49 (hop_fa fd_99_1 rfl) rfl rfl pre0 rfl rfl ?_
  | refine hq_ 49 (hop_fa_fp fd_99_1 rfl (by first | exact Nat.le_of_ble_eq_true rfl | omega | (dsimp only;omega) | (simp <;> omega))) rfl rfl pre0 rfl rfl ?_
  first
  | refine hq_ 50 (HOp.val (v':=boolV ((false||decide (((routeV L mir) s.f 1).2≠0))||decide (((routeV L mir) s.t (-1)).2≠0))) (hol_load ty_4 rfl (by first | exact Nat.le_of_ble_eq_true rfl | omega | (dsimp only;omega) | (simp <;> omega)) (by first | exact Nat.le_of_ble_eq_true rfl | omega | (dsimp only;omega) | (simp <;> omega)) (fun h=>(by first | rfl | cases h))) (rfl)) rfl rfl (pre1 rfl) rfl rfl ?_
  | refine hq_ 50 (HOp.val (v':=boolV ((false||decide (((routeV L mir) s.f 1).2≠0))||decide (((routeV L mir) s.t (-1)).2≠0))) (hop_load_fp ty_4 rfl (by first | exact Nat.le_of_ble_eq_true rfl | omega | (dsimp only;omega) | (simp <;> omega)) (fun h=>(by first | rfl | cases h))) (rfl)) rfl rfl pre0 rfl rfl ?_
  refine sm ?_
  first
  | refine stg 51 (fun hb=>hop_fa fd_100_2 rfl) rfl rfl rfl rfl rfl ?_
  | refine sth 51 (fun hb=>hop_fa fd_100_2 rfl) rfl rfl rfl rfl rfl ?_
  | refine stg 51 (fun hb=>hop_fa_fp fd_100_2 rfl (by first | exact Nat.le_of_ble_eq_true rfl | (simp at hb;first | omega | (dsimp only;omega) | (simp <;> omega)) | omega | (dsimp only;omega))) rfl rfl rfl rfl rfl ?_
  | refine sth 51 (fun hb=>hop_fa_fp fd_100_2 rfl (by first | exact Nat.le_of_ble_eq_true rfl | (simp at hb;first | omega | (dsimp only;omega) | (simp <;> omega)) | omega | (dsimp only;omega))) rfl rfl rfl rfl rfl ?_
  first
  | refine hq_g 53 4 51 false _ (fun hb=>HOp.val (v':=boolV ((routeV L mir) s.f 1).1.ins) (hol_load ty_4 rfl (by first | exact Nat.le_of_ble_eq_true rfl | (simp at hb;first | omega | (dsimp only;omega) | (simp <;> omega)) | omega | (dsimp only;omega)) (by first | exact Nat.le_of_ble_eq_true rfl | (simp at hb;first | omega | (dsimp only;omega) | (simp <;> omega)) | omega | (dsimp only;omega)) (fun h=>(by first | rfl | cases h))) (rfl)) rfl rfl rfl rfl (pre1 rfl) rfl rfl rfl ?_
  | refine hq_g2 53 4 51 _ _ false _ (fun hb=>HOp.val (v':=boolV ((routeV L mir) s.f 1).1.ins) (hol_load ty_4 rfl (by first | exact Nat.le_of_ble_eq_true rfl | (simp at hb;first | omega | (dsimp only;omega) | (simp <;> omega)) | omega | (dsimp only;omega)) (by first | exact Nat.le_of_ble_eq_true rfl | (simp at hb;first | omega | (dsimp only;omega) | (simp <;> omega)) | omega | (dsimp only;omega)) (fun h=>(by first | rfl | cases h))) (rfl)) rfl rfl rfl rfl (pre1 rfl) rfl rfl rfl ?_
  | refine stg 51 (fun hb=>HOp.val (v':=boolV ((routeV L mir) s.f 1).1.ins) (hop_load_fp ty_4 rfl (by first | exact Nat.le_of_ble_eq_true rfl | (simp at hb;first | omega | (dsimp only;omega) | (simp <;> omega)) | omega | (dsimp only;omega)) (fun h=>(by first | rfl | cases h))) (rfl)) rfl rfl rfl rfl rfl ?_
  | refine sth 51 (fun hb=>HOp.val (v':=boolV ((routeV L mir) s.f 1).1.ins) (hop_load_fp ty_4 rfl (by first | exact Nat.le_of_ble_eq_true rfl | (simp at hb;first | omega | (dsimp only;omega) | (simp <;> omega)) | omega | (dsimp only;omega)) (fun h=>(by first | rfl | cases h))) (rfl)) rfl rfl rfl rfl rfl ?_
  first
  | refine stg 51 (fun hb=>hop_move rfl) rfl rfl rfl rfl rfl ?_
  | refine sth 51 (fun hb=>hop_move rfl) rfl rfl rfl rfl rfl ?_
  first
  | refine stg 54 (fun hb=>hop_fa fd_100_2 rfl) rfl rfl rfl rfl rfl ?_
  | refine hq_g3 55 7 54 51 false true _ _ (fun hb hb2=>hop_fa fd_100_2 rfl) rfl rfl rfl rfl rfl pre0 rfl rfl rfl ?_
  | refine sth 54 (fun hb=>hop_fa fd_100_2 rfl) rfl rfl rfl rfl rfl ?_
  | refine stg 54 (fun hb=>hop_fa_fp fd_100_2 rfl (by first | exact Nat.le_of_ble_eq_true rfl | (simp at hb;first | omega | (dsimp only;omega) | (simp <;> omega)) | omega | (dsimp only;omega))) rfl rfl rfl rfl rfl ?_
  | refine hq_g3 55 7 54 51 false true _ _ (fun hb hb2=>hop_fa_fp fd_100_2 rfl (by first | exact Nat.le_of_ble_eq_true rfl | (simp at hb;omega) | (simp at hb2;omega) | (simp at hb hb2;first | omega | (dsimp only;omega) | (simp <;> omega)) | omega | (dsimp only;omega))) rfl rfl rfl rfl rfl pre0 rfl rfl rfl ?_
  | refine sth 54 (fun hb=>hop_fa_fp fd_100_2 rfl (by first | exact Nat.le_of_ble_eq_true rfl | (simp at hb;first | omega | (dsimp only;omega) | (simp <;> omega)) | omega | (dsimp only;omega))) rfl rfl rfl rfl rfl ?_
  first
  | refine hq_g 56 7 54 true _ (fun hb=>HOp.val (v':=boolV ((routeV L mir) s.t (-1)).1.ins) (hol_load ty_4 rfl (by first | exact Nat.le_of_ble_eq_true rfl | (simp at hb;first | omega | (dsimp only;omega) | (simp <;> omega)) | omega | (dsimp only;omega)) (by first | exact Nat.le_of_ble_eq_true rfl | (simp at hb;first | omega | (dsimp only;omega) | (simp <;> omega)) | omega | (dsimp only;omega)) (fun h=>(by first | rfl | cases h))) (rfl)) rfl rfl rfl rfl (pre1 rfl) rfl rfl rfl ?_
  | refine hq_g3 56 7 54 51 false true _ _ (fun hb hb2=>HOp.val (v':=boolV ((routeV L mir) s.t (-1)).1.ins) (hol_load ty_4 rfl (by first | exact Nat.le_of_ble_eq_true rfl | (simp at hb;omega) | (simp at hb2;omega) | (simp at hb hb2;first | omega | (dsimp only;omega) | (simp <;> omega)) | omega | (dsimp only;omega)) (by first | exact Nat.le_of_ble_eq_true rfl | (simp at hb;omega) | (simp at hb2;omega) | (simp at hb hb2;first | omega | (dsimp only;omega) | (simp <;> omega)) | omega | (dsimp only;omega)) (fun h=>(by first | rfl | cases h))) (rfl)) rfl rfl rfl rfl rfl (pre1 rfl) rfl rfl rfl ?_
  | refine hq_g2 56 7 54 _ _ true _ (fun hb=>HOp.val (v':=boolV ((routeV L mir) s.t (-1)).1.ins) (hol_load ty_4 rfl (by first | exact Nat.le_of_ble_eq_true rfl | (simp at hb;first | omega | (dsimp only;omega) | (simp <;> omega)) | omega | (dsimp only;omega)) (by first | exact Nat.le_of_ble_eq_true rfl | (simp at hb;first | omega | (dsimp only;omega) | (simp <;> omega)) | omega | (dsimp only;omega)) (fun h=>(by first | rfl | cases h))) (rfl)) rfl rfl rfl rfl (pre1 rfl) rfl rfl rfl ?_
  | refine stg 54 (fun hb=>HOp.val (v':=boolV ((routeV L mir) s.t (-1)).1.ins) (hop_load_fp ty_4 rfl (by first | exact Nat.le_of_ble_eq_true rfl | (simp at hb;first | omega | (dsimp only;omega) | (simp <;> omega)) | omega | (dsimp only;omega)) (fun h=>(by first | rfl | cases h))) (rfl)) rfl rfl rfl rfl rfl ?_
  | refine hq_g3 56 7 54 51 false true _ _ (fun hb hb2=>HOp.val (v':=boolV ((routeV L mir) s.t (-1)).1.ins) (hop_load_fp ty_4 rfl (by first | exact Nat.le_of_ble_eq_true rfl | (simp at hb;omega) | (simp at hb2;omega) | (simp at hb hb2;first | omega | (dsimp only;omega) | (simp <;> omega)) | omega | (dsimp only;omega)) (fun h=>(by first | rfl | cases h))) (rfl)) rfl rfl rfl rfl rfl pre0 rfl rfl rfl ?_
  | refine sth 54 (fun hb=>HOp.val (v':=boolV ((routeV L mir) s.t (-1)).1.ins) (hop_load_fp ty_4 rfl (by first | exact Nat.le_of_ble_eq_true rfl | (simp at hb;first | omega | (dsimp only;omega) | (simp <;> omega)) | omega | (dsimp only;omega)) (fun h=>(by first | rfl | cases h))) (rfl)) rfl rfl rfl rfl rfl ?_
  first
  | refine hq_pg 57 (hstep_andg (gi:=4) (j:=51) _ _ rfl rfl rfl rfl) rfl rfl rfl rfl ?_
  | refine hq_pg 57 (hstep_org (gi:=4) (j:=51) _ _ rfl rfl rfl rfl) rfl rfl rfl rfl ?_
  | refine hq_pg 57 (hstep_pickg (gi:=4) (j:=51) _ _ _ _ rfl rfl rfl rfl (fun _=>.refl _) (fun _=>.refl _)) rfl rfl rfl rfl ?_
  first
  | refine hq_p 58 (hstep_and _ _ rfl rfl rfl) rfl rfl rfl ?_
  | refine hq_p 58 (hstep_or _ _ rfl rfl rfl) rfl rfl rfl ?_
  | refine hq_p 58 (hstep_ite _ _ _ rfl rfl rfl) rfl rfl rfl ?_
  | refine hq_p 58 (hstep_pick _ _ _ _ rfl rfl rfl (fun _=>.refl _) (fun _=>.refl _)) rfl rfl rfl ?_
  refine s0 (HOp.val (v':=boolV true) (hop_move rfl) (congrArg (fun b=>boolV b) (gone2_t hg))) ?_
  refine hq_g 60 12 59 false true (v:=.imm undef) (fun h=>absurd h (by decide)) rfl rfl rfl rfl pre0 rfl rfl rfl ?_
  refine hq_g 61 12 59 false true (v:=.imm undef) (fun h=>absurd h (by decide)) rfl rfl rfl rfl pre0 rfl rfl rfl ?_
  refine hq_g 62 12 59 false true (v:=.imm undef) (fun h=>absurd h (by decide)) rfl rfl rfl rfl pre0 rfl rfl rfl ?_
  refine hq_g 63 12 59 false true (v:=.imm undef) (fun h=>absurd h (by decide)) rfl rfl rfl rfl pre0 rfl rfl rfl ?_
  refine hq_g 64 12 59 false true (v:=.imm undef) (fun h=>absurd h (by decide)) rfl rfl rfl rfl pre0 rfl rfl rfl ?_
  refine s0 (hop_pick_t rfl rfl) ?_
  refine sm ?_
  refine hq_g 67 19 66 false true (v:=.imm undef) (fun h=>absurd h (by decide)) rfl rfl rfl rfl pre0 rfl rfl rfl ?_
  refine hq_g 68 19 66 false true (v:=.imm undef) (fun h=>absurd h (by decide)) rfl rfl rfl rfl pre0 rfl rfl rfl ?_
  refine hq_g 69 19 66 false true (v:=.imm undef) (fun h=>absurd h (by decide)) rfl rfl rfl rfl pre0 rfl rfl rfl ?_
  refine hq_g 70 19 66 false true (v:=.imm undef) (fun h=>absurd h (by decide)) rfl rfl rfl rfl pre0 rfl rfl rfl ?_
  refine s0 (hop_pick_t rfl rfl) ?_
  refine sm ?_
  refine hq_g 73 25 72 false true (v:=.imm undef) (fun h=>absurd h (by decide)) rfl rfl rfl rfl pre0 rfl rfl rfl ?_
  refine hq_g 74 25 72 false true (v:=.imm undef) (fun h=>absurd h (by decide)) rfl rfl rfl rfl pre0 rfl rfl rfl ?_
  refine hq_g 75 25 72 false true (v:=.imm undef) (fun h=>absurd h (by decide)) rfl rfl rfl rfl pre0 rfl rfl rfl ?_
  refine s0 (hop_pick_t rfl rfl) ?_
  refine nu ?_
  refine h11 _ ?_
  refine wc (fun hc1=>?_) (fun hc1=>?_)
  ·have hr1:=hc1;(try simp only [hcs,Int.reduceToNat] at hc1)
   refine srg fun N h12=>?_
   refine s0 (hop_build (hs:=[]) st_26 rfl rfl trivial) ?_
   first
   | refine hm_s1 (hol_storeW ty_26 rfl rfl rfl rfl) rfl rfl (pre1 rfl) (c':=c+39) rfl ?_
   | refine hm_s1 (hol_store ty_26 rfl rfl rfl rfl (by first | exact Nat.le_of_ble_eq_true rfl | omega | (dsimp only;omega) | (simp <;> omega)) (by first | exact Nat.le_of_ble_eq_true rfl | omega | (dsimp only;omega) | (simp <;> omega)) (by first | exact Nat.le_of_ble_eq_true rfl | omega | (dsimp only;omega) | (simp <;> omega))) rfl rfl (pre1 rfl) (c':=c+39) rfl ?_
   refine sa<|snl h12<|hw_ret<|hq_then_ret ?_
   refine hf_retR2 ok hX RetS.one rfl (rvl_cell rfl rfl ty_26 rqc rfl rfl) (rval_tmp rfl) [] rfl pre0 (()) (trivial) (by rfl) (by rfl) ((by rw [byV_gone hg];exact .fz _ _ (fz_t2 (fz_agg10 fzc fzc fzc fzc fzc fzc fzc fzc fzc fzc) (.imm _)))) ?_
   exact ⟨⟨_,rfl,(okz_rtM rfl rfl rfl rfl rfl rfl rfl)⟩,⟨⟨_,rfl,okz_mps⟩,⟨⟨_,rfl,okz_map⟩,trivial⟩⟩⟩
  have hr1:=hc1;(try simp only [hcs,Int.reduceToNat] at hc1)
  exfalso;simp at hr1
 ·skip
  refine (hsub_ob 9302 (stO _ (outV (routeV L mir) s)) rfl (osub_st (fun j hj=>(sb10 (by exact .refl _) (by exact .refl _) (by exact .refl _) (by exact .refl _) (by exact .refl _) (by exact .refl _) (by exact .refl _) (by exact .refl _) (by exact .refl _) (by exact .refl _)) j hj))).wp ?_;refine (hsub_ob 9201 (shO _ g false) rfl (osub_sh0 rfl rfl (gone2_f hg).1)).wp ?_
  refine hw_region<|sm ?_
  first
  | refine hq_ 48 (hop_nilcheck_pt rfl) rfl rfl pre0 rfl rfl ?_
  | refine hq_ 48 (hop_nilcheck_fp rfl) rfl rfl pre0 rfl rfl ?_
  first
  | refine hq_ 49 (hop_fa fd_99_1 rfl) rfl rfl pre0 rfl rfl ?_
  | refine hq_ 49 (hop_fa_fp fd_99_1 rfl (by first | exact Nat.le_of_ble_eq_true rfl | omega | (dsimp only;omega) | (simp <;> omega))) rfl rfl pre0 rfl rfl ?_
  first
  | refine hq_ 50 (HOp.val (v':=boolV false) (hol_load ty_4 rfl (by first | exact Nat.le_of_ble_eq_true rfl | omega | (dsimp only;omega) | (simp <;> omega)) (by first | exact Nat.le_of_ble_eq_true rfl | omega | (dsimp only;omega) | (simp <;> omega)) (fun h=>(by first | rfl | cases h))) (rfl)) rfl rfl (pre1 rfl) rfl rfl ?_
  | refine hq_ 50 (HOp.val (v':=boolV false) (hop_load_fp ty_4 rfl (by first | exact Nat.le_of_ble_eq_true rfl | omega | (dsimp only;omega) | (simp <;> omega)) (fun h=>(by first | rfl | cases h))) (rfl)) rfl rfl pre0 rfl rfl ?_
  refine sm ?_
  first
  | refine stg 51 (fun hb=>hop_fa fd_100_2 rfl) rfl rfl rfl rfl rfl ?_
  | refine sth 51 (fun hb=>hop_fa fd_100_2 rfl) rfl rfl rfl rfl rfl ?_
  | refine stg 51 (fun hb=>hop_fa_fp fd_100_2 rfl (by first | exact Nat.le_of_ble_eq_true rfl | (simp at hb;first | omega | (dsimp only;omega) | (simp <;> omega)) | omega | (dsimp only;omega))) rfl rfl rfl rfl rfl ?_
  | refine sth 51 (fun hb=>hop_fa_fp fd_100_2 rfl (by first | exact Nat.le_of_ble_eq_true rfl | (simp at hb;first | omega | (dsimp only;omega) | (simp <;> omega)) | omega | (dsimp only;omega))) rfl rfl rfl rfl rfl ?_
  first
  | refine hq_g 53 4 51 false _ (fun hb=>HOp.val (v':=boolV ((routeV L mir) s.f 1).1.ins) (hol_load ty_4 rfl (by first | exact Nat.le_of_ble_eq_true rfl | (simp at hb;first | omega | (dsimp only;omega) | (simp <;> omega)) | omega | (dsimp only;omega)) (by first | exact Nat.le_of_ble_eq_true rfl | (simp at hb;first | omega | (dsimp only;omega) | (simp <;> omega)) | omega | (dsimp only;omega)) (fun h=>(by first | rfl | cases h))) (rfl)) rfl rfl rfl rfl (pre1 rfl) rfl rfl rfl ?_
  | refine hq_g2 53 4 51 _ _ false _ (fun hb=>HOp.val (v':=boolV ((routeV L mir) s.f 1).1.ins) (hol_load ty_4 rfl (by first | exact Nat.le_of_ble_eq_true rfl | (simp at hb;first | omega | (dsimp only;omega) | (simp <;> omega)) | omega | (dsimp only;omega)) (by first | exact Nat.le_of_ble_eq_true rfl | (simp at hb;first | omega | (dsimp only;omega) | (simp <;> omega)) | omega | (dsimp only;omega)) (fun h=>(by first | rfl | cases h))) (rfl)) rfl rfl rfl rfl (pre1 rfl) rfl rfl rfl ?_
  | refine stg 51 (fun hb=>HOp.val (v':=boolV ((routeV L mir) s.f 1).1.ins) (hop_load_fp ty_4 rfl (by first | exact Nat.le_of_ble_eq_true rfl | (simp at hb;first | omega | (dsimp only;omega) | (simp <;> omega)) | omega | (dsimp only;omega)) (fun h=>(by first | rfl | cases h))) (rfl)) rfl rfl rfl rfl rfl ?_
  | refine sth 51 (fun hb=>HOp.val (v':=boolV ((routeV L mir) s.f 1).1.ins) (hop_load_fp ty_4 rfl (by first | exact Nat.le_of_ble_eq_true rfl | (simp at hb;first | omega | (dsimp only;omega) | (simp <;> omega)) | omega | (dsimp only;omega)) (fun h=>(by first | rfl | cases h))) (rfl)) rfl rfl rfl rfl rfl ?_
  first
  | refine stg 51 (fun hb=>hop_move rfl) rfl rfl rfl rfl rfl ?_
  | refine sth 51 (fun hb=>hop_move rfl) rfl rfl rfl rfl rfl ?_
  first
  | refine stg 54 (fun hb=>hop_fa fd_100_2 rfl) rfl rfl rfl rfl rfl ?_
  | refine hq_g3 55 7 54 51 false true _ _ (fun hb hb2=>hop_fa fd_100_2 rfl) rfl rfl rfl rfl rfl pre0 rfl rfl rfl ?_
  | refine sth 54 (fun hb=>hop_fa fd_100_2 rfl) rfl rfl rfl rfl rfl ?_
  | refine stg 54 (fun hb=>hop_fa_fp fd_100_2 rfl (by first | exact Nat.le_of_ble_eq_true rfl | (simp at hb;first | omega | (dsimp only;omega) | (simp <;> omega)) | omega | (dsimp only;omega))) rfl rfl rfl rfl rfl ?_
  | refine hq_g3 55 7 54 51 false true _ _ (fun hb hb2=>hop_fa_fp fd_100_2 rfl (by first | exact Nat.le_of_ble_eq_true rfl | (simp at hb;omega) | (simp at hb2;omega) | (simp at hb hb2;first | omega | (dsimp only;omega) | (simp <;> omega)) | omega | (dsimp only;omega))) rfl rfl rfl rfl rfl pre0 rfl rfl rfl ?_
  | refine sth 54 (fun hb=>hop_fa_fp fd_100_2 rfl (by first | exact Nat.le_of_ble_eq_true rfl | (simp at hb;first | omega | (dsimp only;omega) | (simp <;> omega)) | omega | (dsimp only;omega))) rfl rfl rfl rfl rfl ?_
  first
  | refine hq_g 56 7 54 true _ (fun hb=>HOp.val (v':=boolV ((routeV L mir) s.t (-1)).1.ins) (hol_load ty_4 rfl (by first | exact Nat.le_of_ble_eq_true rfl | (simp at hb;first | omega | (dsimp only;omega) | (simp <;> omega)) | omega | (dsimp only;omega)) (by first | exact Nat.le_of_ble_eq_true rfl | (simp at hb;first | omega | (dsimp only;omega) | (simp <;> omega)) | omega | (dsimp only;omega)) (fun h=>(by first | rfl | cases h))) (rfl)) rfl rfl rfl rfl (pre1 rfl) rfl rfl rfl ?_
  | refine hq_g3 56 7 54 51 false true _ _ (fun hb hb2=>HOp.val (v':=boolV ((routeV L mir) s.t (-1)).1.ins) (hol_load ty_4 rfl (by first | exact Nat.le_of_ble_eq_true rfl | (simp at hb;omega) | (simp at hb2;omega) | (simp at hb hb2;first | omega | (dsimp only;omega) | (simp <;> omega)) | omega | (dsimp only;omega)) (by first | exact Nat.le_of_ble_eq_true rfl | (simp at hb;omega) | (simp at hb2;omega) | (simp at hb hb2;first | omega | (dsimp only;omega) | (simp <;> omega)) | omega | (dsimp only;omega)) (fun h=>(by first | rfl | cases h))) (rfl)) rfl rfl rfl rfl rfl (pre1 rfl) rfl rfl rfl ?_
  | refine hq_g2 56 7 54 _ _ true _ (fun hb=>HOp.val (v':=boolV ((routeV L mir) s.t (-1)).1.ins) (hol_load ty_4 rfl (by first | exact Nat.le_of_ble_eq_true rfl | (simp at hb;first | omega | (dsimp only;omega) | (simp <;> omega)) | omega | (dsimp only;omega)) (by first | exact Nat.le_of_ble_eq_true rfl | (simp at hb;first | omega | (dsimp only;omega) | (simp <;> omega)) | omega | (dsimp only;omega)) (fun h=>(by first | rfl | cases h))) (rfl)) rfl rfl rfl rfl (pre1 rfl) rfl rfl rfl ?_
  | refine stg 54 (fun hb=>HOp.val (v':=boolV ((routeV L mir) s.t (-1)).1.ins) (hop_load_fp ty_4 rfl (by first | exact Nat.le_of_ble_eq_true rfl | (simp at hb;first | omega | (dsimp only;omega) | (simp <;> omega)) | omega | (dsimp only;omega)) (fun h=>(by first | rfl | cases h))) (rfl)) rfl rfl rfl rfl rfl ?_
  | refine hq_g3 56 7 54 51 false true _ _ (fun hb hb2=>HOp.val (v':=boolV ((routeV L mir) s.t (-1)).1.ins) (hop_load_fp ty_4 rfl (by first | exact Nat.le_of_ble_eq_true rfl | (simp at hb;omega) | (simp at hb2;omega) | (simp at hb hb2;first | omega | (dsimp only;omega) | (simp <;> omega)) | omega | (dsimp only;omega)) (fun h=>(by first | rfl | cases h))) (rfl)) rfl rfl rfl rfl rfl pre0 rfl rfl rfl ?_
  | refine sth 54 (fun hb=>HOp.val (v':=boolV ((routeV L mir) s.t (-1)).1.ins) (hop_load_fp ty_4 rfl (by first | exact Nat.le_of_ble_eq_true rfl | (simp at hb;first | omega | (dsimp only;omega) | (simp <;> omega)) | omega | (dsimp only;omega)) (fun h=>(by first | rfl | cases h))) (rfl)) rfl rfl rfl rfl rfl ?_
  first
  | refine hq_pg 57 (hstep_andg (gi:=4) (j:=51) _ _ rfl rfl rfl rfl) rfl rfl rfl rfl ?_
  | refine hq_pg 57 (hstep_org (gi:=4) (j:=51) _ _ rfl rfl rfl rfl) rfl rfl rfl rfl ?_
  | refine hq_pg 57 (hstep_pickg (gi:=4) (j:=51) _ _ _ _ rfl rfl rfl rfl (fun _=>.refl _) (fun _=>.refl _)) rfl rfl rfl rfl ?_
  first
  | refine hq_p 58 (hstep_and _ _ rfl rfl rfl) rfl rfl rfl ?_
  | refine hq_p 58 (hstep_or _ _ rfl rfl rfl) rfl rfl rfl ?_
  | refine hq_p 58 (hstep_ite _ _ _ rfl rfl rfl) rfl rfl rfl ?_
  | refine hq_p 58 (hstep_pick _ _ _ _ rfl rfl rfl (fun _=>.refl _) (fun _=>.refl _)) rfl rfl rfl ?_
  refine s0 (HOp.val (v':=boolV false) (hop_move rfl) (congrArg (fun b=>boolV b) (gone2_f hg).2)) ?_
  refine hq_k 60 59 false (hop_move rfl) rfl rfl rfl rfl pre0 rfl rfl ?_
  first
  | refine hq_k 61 59 false (hop_fa fd_100_0 rfl) rfl rfl rfl rfl pre0 rfl rfl ?_
  | refine hq_k 61 59 false (hop_fa_fp fd_100_0 rfl (by first | exact Nat.le_of_ble_eq_true rfl | (simp at hb;first | omega | (dsimp only;omega) | (simp <;> omega)) | omega | (dsimp only;omega))) rfl rfl rfl rfl pre0 rfl rfl ?_
  first
  | refine hq_k 62 59 false (HOp.val (v':=intV ((routeV L mir) s.t (-1)).1.pos) (hol_load ty_3 rfl (by first | exact Nat.le_of_ble_eq_true rfl | (simp at hb;first | omega | (dsimp only;omega) | (simp <;> omega)) | omega | (dsimp only;omega)) (by first | exact Nat.le_of_ble_eq_true rfl | (simp at hb;first | omega | (dsimp only;omega) | (simp <;> omega)) | omega | (dsimp only;omega)) (fun h=>(by first | rfl | cases h))) (rfl)) rfl rfl rfl rfl (pre1 rfl) rfl rfl ?_
  | refine hq_k 62 59 false (HOp.val (v':=intV ((routeV L mir) s.t (-1)).1.pos) (hop_load_fp ty_3 rfl (by first | exact Nat.le_of_ble_eq_true rfl | (simp at hb;first | omega | (dsimp only;omega) | (simp <;> omega)) | omega | (dsimp only;omega)) (fun h=>(by first | rfl | cases h))) (rfl)) rfl rfl rfl rfl pre0 rfl rfl ?_
  refine hm_k 63 59 false (hop_funD (xs:=[_,_,_,_]) (pre:=[(9201,_),(9301,_),(9302,_),(9101,_),(9102,_),(9103,_)]) (kindM_h _ false g g2 g3 L mir hL hok _ _ s (outV (routeV L mir) s) ((routeV L mir) s.t (-1)).1.pos hs hba) ((clocks_cons (id':=9201) (List.mem_cons_self ..) rfl (clocks_cons (id':=9301) (List.mem_cons_of_mem _ (List.mem_cons_self ..)) rfl (clocks_cons (id':=9302) (List.mem_cons_of_mem _ (List.mem_cons_of_mem _ (List.mem_cons_self ..))) rfl (fun id o h=>⟨_,List.mem_cons_of_mem _ (List.mem_cons_of_mem _ (List.mem_cons_of_mem _ (hget_mem h))),rfl⟩))))) ⟨rfl,⟨rfl,⟨rfl,⟨rfl,trivial⟩⟩⟩⟩) rfl rfl rfl rfl (preC rfl (preC rfl (preC rfl (preC rfl (preC rfl (preC rfl pre0)))))) rfl rfl (c':=c+39) rfl ?_
  refine hq_k 64 59 false (hop_not rfl) rfl rfl rfl rfl pre0 rfl rfl ?_
  refine s0 (hop_pick_f rfl rfl) ?_
  refine sm ?_
  first
  | refine stg 66 (fun hb=>hop_move rfl) rfl rfl rfl rfl rfl ?_
  | refine sth 66 (fun hb=>hop_move rfl) rfl rfl rfl rfl rfl ?_
  first
  | refine stg 66 (fun hb=>hop_nilcheck_pt rfl) rfl rfl rfl rfl rfl ?_
  | refine sth 66 (fun hb=>hop_nilcheck_pt rfl) rfl rfl rfl rfl rfl ?_
  | refine stg 66 (fun hb=>hop_nilcheck_fp rfl) rfl rfl rfl rfl rfl ?_
  | refine sth 66 (fun hb=>hop_nilcheck_fp rfl) rfl rfl rfl rfl rfl ?_
  first
  | refine stg 66 (fun hb=>hop_fa fd_99_1 rfl) rfl rfl rfl rfl rfl ?_
  | refine sth 66 (fun hb=>hop_fa fd_99_1 rfl) rfl rfl rfl rfl rfl ?_
  | refine stg 66 (fun hb=>hop_fa_fp fd_99_1 rfl (by first | exact Nat.le_of_ble_eq_true rfl | (simp at hb;first | omega | (dsimp only;omega) | (simp <;> omega)) | omega | (dsimp only;omega))) rfl rfl rfl rfl rfl ?_
  | refine sth 66 (fun hb=>hop_fa_fp fd_99_1 rfl (by first | exact Nat.le_of_ble_eq_true rfl | (simp at hb;first | omega | (dsimp only;omega) | (simp <;> omega)) | omega | (dsimp only;omega))) rfl rfl rfl rfl rfl ?_
  first
  | refine hq_g 70 19 66 false _ (fun hb=>HOp.val (v':=boolV (kV (routeV L mir) s).2.2) (hol_load ty_4 rfl (by first | exact Nat.le_of_ble_eq_true rfl | (simp at hb;first | omega | (dsimp only;omega) | (simp <;> omega)) | omega | (dsimp only;omega)) (by first | exact Nat.le_of_ble_eq_true rfl | (simp at hb;first | omega | (dsimp only;omega) | (simp <;> omega)) | omega | (dsimp only;omega)) (fun h=>(by first | rfl | cases h))) (rfl)) rfl rfl rfl rfl (pre1 rfl) rfl rfl rfl ?_
  | refine hq_g2 70 19 66 _ _ false _ (fun hb=>HOp.val (v':=boolV (kV (routeV L mir) s).2.2) (hol_load ty_4 rfl (by first | exact Nat.le_of_ble_eq_true rfl | (simp at hb;first | omega | (dsimp only;omega) | (simp <;> omega)) | omega | (dsimp only;omega)) (by first | exact Nat.le_of_ble_eq_true rfl | (simp at hb;first | omega | (dsimp only;omega) | (simp <;> omega)) | omega | (dsimp only;omega)) (fun h=>(by first | rfl | cases h))) (rfl)) rfl rfl rfl rfl (pre1 rfl) rfl rfl rfl ?_
  | refine stg 66 (fun hb=>HOp.val (v':=boolV (kV (routeV L mir) s).2.2) (hop_load_fp ty_4 rfl (by first | exact Nat.le_of_ble_eq_true rfl | (simp at hb;first | omega | (dsimp only;omega) | (simp <;> omega)) | omega | (dsimp only;omega)) (fun h=>(by first | rfl | cases h))) (rfl)) rfl rfl rfl rfl rfl ?_
  | refine sth 66 (fun hb=>HOp.val (v':=boolV (kV (routeV L mir) s).2.2) (hop_load_fp ty_4 rfl (by first | exact Nat.le_of_ble_eq_true rfl | (simp at hb;first | omega | (dsimp only;omega) | (simp <;> omega)) | omega | (dsimp only;omega)) (fun h=>(by first | rfl | cases h))) (rfl)) rfl rfl rfl rfl rfl ?_
  first
  | refine hq_p 71 (hstep_and _ _ rfl rfl rfl) rfl rfl rfl ?_
  | refine hq_p 71 (hstep_or _ _ rfl rfl rfl) rfl rfl rfl ?_
  | refine hq_p 71 (hstep_ite _ _ _ rfl rfl rfl) rfl rfl rfl ?_
  | refine hq_p 71 (hstep_pick _ _ _ _ rfl rfl rfl (fun _=>.refl _) (fun _=>.refl _)) rfl rfl rfl ?_
  refine sm ?_
  first
  | refine hq_g 73 25 72 false _ (fun hb=>HOp.val (v':=stV (kV (routeV L mir) s).2.1) (hol_load ty_26 rfl (by first | exact Nat.le_of_ble_eq_true rfl | (simp at hb;first | omega | (dsimp only;omega) | (simp <;> omega)) | omega | (dsimp only;omega)) (by first | exact Nat.le_of_ble_eq_true rfl | (simp at hb;first | omega | (dsimp only;omega) | (simp <;> omega)) | omega | (dsimp only;omega)) (fun h=>(by first | rfl | cases h))) (rfl)) rfl rfl rfl rfl (pre1 rfl) rfl rfl rfl ?_
  | refine hq_g2 73 25 72 _ _ false _ (fun hb=>HOp.val (v':=stV (kV (routeV L mir) s).2.1) (hol_load ty_26 rfl (by first | exact Nat.le_of_ble_eq_true rfl | (simp at hb;first | omega | (dsimp only;omega) | (simp <;> omega)) | omega | (dsimp only;omega)) (by first | exact Nat.le_of_ble_eq_true rfl | (simp at hb;first | omega | (dsimp only;omega) | (simp <;> omega)) | omega | (dsimp only;omega)) (fun h=>(by first | rfl | cases h))) (rfl)) rfl rfl rfl rfl (pre1 rfl) rfl rfl rfl ?_
  | refine stg 72 (fun hb=>HOp.val (v':=stV (kV (routeV L mir) s).2.1) (hop_load_fp ty_26 rfl (by first | exact Nat.le_of_ble_eq_true rfl | (simp at hb;first | omega | (dsimp only;omega) | (simp <;> omega)) | omega | (dsimp only;omega)) (fun h=>(by first | rfl | cases h))) (rfl)) rfl rfl rfl rfl rfl ?_
  | refine sth 72 (fun hb=>HOp.val (v':=stV (kV (routeV L mir) s).2.1) (hop_load_fp ty_26 rfl (by first | exact Nat.le_of_ble_eq_true rfl | (simp at hb;first | omega | (dsimp only;omega) | (simp <;> omega)) | omega | (dsimp only;omega)) (fun h=>(by first | rfl | cases h))) (rfl)) rfl rfl rfl rfl rfl ?_
  first
  | refine stg 72 (fun hb=>hop_call0 (xs:=[_]) (shape_h (kV (routeV L mir) s).2.1 (by rw [kV_len.1];omega) (by rw [kV_len.2];omega)) ⟨rfl,trivial⟩ ⟨(Fz.eq rfl),trivial⟩) rfl rfl rfl rfl rfl ?_
  | refine sth 72 (fun hb=>hop_call0 (xs:=[_]) (shape_h (kV (routeV L mir) s).2.1 (by rw [kV_len.1];omega) (by rw [kV_len.2];omega)) ⟨rfl,trivial⟩ ⟨(Fz.eq rfl),trivial⟩) rfl rfl rfl rfl rfl ?_
  first
  | refine stg 72 (fun hb=>hop_not rfl) rfl rfl rfl rfl rfl ?_
  | refine sth 72 (fun hb=>hop_not rfl) rfl rfl rfl rfl rfl ?_
  first
  | refine hq_p 76 (hstep_and _ _ rfl rfl rfl) rfl rfl rfl ?_
  | refine hq_p 76 (hstep_or _ _ rfl rfl rfl) rfl rfl rfl ?_
  | refine hq_p 76 (hstep_ite _ _ _ rfl rfl rfl) rfl rfl rfl ?_
  | refine hq_p 76 (hstep_pick _ _ _ _ rfl rfl rfl (fun _=>.refl _) (fun _=>.refl _)) rfl rfl rfl ?_
  refine nu ?_
  refine h11 _ ?_
  refine wc (fun hc1=>?_) (fun hc1=>?_)
  ·have hr1:=hc1;(try simp only [hcs,Int.reduceToNat] at hc1)
   have hn:¬ ((kV (routeV L mir) s).1=true∧(kV (routeV L mir) s).2.2=false∧(kV (routeV L mir) s).2.1.shape=true):=(by rintro ⟨h1,h2,h3⟩;have h9:((!(kV (routeV L mir) s).1||(kV (routeV L mir) s).2.2)||!(kV (routeV L mir) s).2.1.shape)=true:=hr1;rw [h1,h2,h3] at h9;cases h9)
   refine srg fun N h13=>?_
   refine s0 (hop_build (hs:=[]) st_26 rfl rfl trivial) ?_
   first
   | refine hm_s1 (hol_storeW ty_26 rfl rfl rfl rfl) rfl rfl (pre1 rfl) (c':=c+40) rfl ?_
   | refine hm_s1 (hol_store ty_26 rfl rfl rfl rfl (by first | exact Nat.le_of_ble_eq_true rfl | omega | (dsimp only;omega) | (simp <;> omega)) (by first | exact Nat.le_of_ble_eq_true rfl | omega | (dsimp only;omega) | (simp <;> omega)) (by first | exact Nat.le_of_ble_eq_true rfl | omega | (dsimp only;omega) | (simp <;> omega))) rfl rfl (pre1 rfl) (c':=c+40) rfl ?_
   refine sa<|snl h13<|hw_ret<|hq_then_ret ?_
   refine hf_retR2 ok hX RetS.one rfl (rvl_cell rfl rfl ty_26 rqc rfl rfl) (rval_tmp rfl) [] rfl pre0 (()) (trivial) (by rfl) (by rfl) ((by rw [byV_no hn];exact .fz _ _ (fz_t2 (fz_agg10 fzc fzc fzc fzc fzc fzc fzc fzc fzc fzc) (.imm _)))) ?_
   exact ⟨⟨_,rfl,(okz_rtM rfl rfl rfl rfl rfl rfl rfl)⟩,⟨⟨_,rfl,okz_mps⟩,⟨⟨_,rfl,okz_map⟩,trivial⟩⟩⟩
  have hr1:=hc1;(try simp only [hcs,Int.reduceToNat] at hc1)
  have hy:(kV (routeV L mir) s).1=true∧(kV (routeV L mir) s).2.2=false∧(kV (routeV L mir) s).2.1.shape=true:=(by have h9:((!(kV (routeV L mir) s).1||(kV (routeV L mir) s).2.2)||!(kV (routeV L mir) s).2.1.shape)=false:=hr1;cases e1:(kV (routeV L mir) s).1 <;> cases e2:(kV (routeV L mir) s).2.2 <;> cases e3:(kV (routeV L mir) s).2.1.shape <;> first | exact ⟨rfl,rfl,rfl⟩ | (rw [e1,e2,e3] at h9;cases h9))
  refine hw_skip<|h10 _<|srg fun N h14=>?_
  first
  | refine hq_ 78 (hol_load ty_26 rfl (by first | exact Nat.le_of_ble_eq_true rfl | omega | (dsimp only;omega) | (simp <;> omega)) (by first | exact Nat.le_of_ble_eq_true rfl | omega | (dsimp only;omega) | (simp <;> omega)) (fun h=>(by first | rfl | cases h))) rfl rfl (pre1 rfl) rfl rfl ?_
  | refine hq_ 78 (hop_load_fp ty_26 rfl (by first | exact Nat.le_of_ble_eq_true rfl | omega | (dsimp only;omega) | (simp <;> omega)) (fun h=>(by first | rfl | cases h))) rfl rfl pre0 rfl rfl ?_
  first
  | refine hm_s1 (hol_storeW ty_26 rfl rfl rfl rfl) rfl rfl (pre1 rfl) (c':=c+40) rfl ?_
  | refine hm_s1 (hol_store ty_26 rfl rfl rfl rfl (by first | exact Nat.le_of_ble_eq_true rfl | omega | (dsimp only;omega) | (simp <;> omega)) (by first | exact Nat.le_of_ble_eq_true rfl | omega | (dsimp only;omega) | (simp <;> omega)) (by first | exact Nat.le_of_ble_eq_true rfl | omega | (dsimp only;omega) | (simp <;> omega))) rfl rfl (pre1 rfl) (c':=c+40) rfl ?_
  refine sa<|snl h14<|hw_ret ?_
  refine hf_retR2 ok hX RetS.one rfl (rvl_cell rfl rfl ty_26 rqc rfl rfl) (rval_tmp rfl) [] rfl pre0 (()) (trivial) (by rfl) (by rfl) ((by rw [byV_yes hs hg hy];exact .fz _ _ (fz_t2 (fz_agg10 fzc fzc fzc fzc fzc fzc fzc fzc (by exact fz_toks (kV (routeV L mir) s).2.1.sl) (by exact fz_mkss (kV (routeV L mir) s).2.1.sets)) (.imm _)))) ?_
  exact ⟨⟨_,rfl,(okz_rtM rfl rfl rfl rfl rfl rfl rfl)⟩,⟨⟨_,rfl,okz_mps⟩,⟨⟨_,rfl,okz_map⟩,trivial⟩⟩⟩
theorem thrM_h (g g2 g3:Nat) (L:List (List Rg)) (mir:List (Int×Int)) (hL:L.length≤100000) (hok:RtOk L mir) (s:St) (l1:s.sl.length≤20000) (l2:s.sets.length≤20000) {o:Option St} (ho:byV (routeV L mir) s=o):HFunD Try.prog 15 [stV s,.pt 9101 g 0 0] [(9101,rtO g (.os 9102 g2 0 L.length) (.mp 9103 g3)),(9102,mpsO g2 L),(9103,mirO g3 mir)] (optV o) [(9101,rtO g (.os 9102 g2 0 L.length) (.mp 9103 g3)),(9102,mpsO g2 L),(9103,mirO g3 mir)]:=by
 intro c
 subst ho
 refine hfun_of Try.func15 rfl kr _ _ _ _ rfl 15 rfl rfl (fun X ok hX=>?_)
 refine srg fun N h1=>?_
 refine hm_1 2 (hop_box (id:=2) (sz:=10) rfl rfl rfl omx omx) rfl rfl pre0 rfl rfl (c':=c+1) rfl ?_
 refine hm_1 4 (hop_alloc (id:=4) (sz:=10) zc_26 rfl rfl omx omx) rfl rfl pre0 rfl rfl (c':=c+2) rfl ?_
 refine sa<|snl h1<|hw_seq fun Nh2 h2=>srg fun N h3=>sm ?_
 first
 | refine hq_ 7 (hop_eql_ptn (by kernel_rfl) rfl rfl) rfl rfl pre0 rfl rfl ?_
 | refine hq_ 7 (hop_eql_fpn (by kernel_rfl) rfl rfl) rfl rfl pre0 rfl rfl ?_
 | refine hq_ 7 (hop_eql_nnp (by kernel_rfl) rfl rfl) rfl rfl pre0 rfl rfl ?_
 | refine hq_ 7 (hop_eql_fp rfl rfl rfl) rfl rfl pre0 rfl rfl ?_
 | refine hq_ 7 (hop_eql_pn rfl rfl rfl) rfl rfl pre0 rfl rfl ?_
 refine snl h3 ?_
 refine wc (fun hc0=>?_) (fun hc0=>?_)
 ·have hr0:=hc0;(try simp only [hcs,Int.reduceToNat] at hc0)
  exfalso;simp at hr0
 have hr0:=hc0;(try simp only [hcs,Int.reduceToNat] at hc0)
 refine hw_skip<|h2 _<|hw_seq fun Nh4 h4=>?_
 rcases hby:byV (routeV L mir) s with _ | y
 ·skip
  refine hw_region ?_
  first
  | refine hq_ 9 (hol_load ty_26 rfl (by first | exact Nat.le_of_ble_eq_true rfl | omega | (dsimp only;omega) | (simp <;> omega)) (by first | exact Nat.le_of_ble_eq_true rfl | omega | (dsimp only;omega) | (simp <;> omega)) (fun h=>(by first | rfl | cases h))) rfl rfl (pre1 rfl) rfl rfl ?_
  | refine hq_ 9 (hop_load_fp ty_26 rfl (by first | exact Nat.le_of_ble_eq_true rfl | omega | (dsimp only;omega) | (simp <;> omega)) (fun h=>(by first | rfl | cases h))) rfl rfl pre0 rfl rfl ?_
  refine sm ?_
  refine s0 (hop_makeBound rfl) ?_
  refine hf_callR 12 (xs:=[_,_]) (pre:=[(9101,_),(9102,_),(9103,_)]) ((hby▸byM_h g g2 g3 L mir hL hok s l1 l2) _) ⟨rfl,⟨rfl,trivial⟩⟩ (preC rfl (preC rfl (preC rfl pre0))) rfl rfl (fun x1 c1 hx1=>?_)
  (try dsimp only)
  refine s0 hex ?_
  refine s0 hex ?_
  first
  | refine hm_s1 (hol_storeW ty_26 rfl rfl rfl rfl) rfl rfl (pre1 rfl) (c':=c1+1) rfl ?_
  | refine hm_s1 (hol_store ty_26 rfl rfl rfl rfl (by first | exact Nat.le_of_ble_eq_true rfl | omega | (dsimp only;omega) | (simp <;> omega)) (by first | exact Nat.le_of_ble_eq_true rfl | omega | (dsimp only;omega) | (simp <;> omega)) (by first | exact Nat.le_of_ble_eq_true rfl | omega | (dsimp only;omega) | (simp <;> omega))) rfl rfl (pre1 rfl) (c':=c1+1) rfl ?_
  refine sa<|snl h4<|hw_ret ?_
  refine hf_retR2 ok hX RetS.one rfl (rvl_cell rfl rfl ty_26 rqc rfl rfl) (rval_tmp rfl) [] rfl pre0 (()) (trivial) (by rfl) (by rfl) ((by rw [hby];exact .fz _ _ (fz_t2 (fz_agg10 fzc fzc fzc fzc fzc fzc fzc fzc (by exact fz_toks St.none.sl) (by exact fz_mkss St.none.sets)) (.imm _)))) ?_
  exact ⟨⟨_,rfl,(okz_rtM rfl rfl rfl rfl rfl rfl rfl)⟩,⟨⟨_,rfl,okz_mps⟩,⟨⟨_,rfl,okz_map⟩,trivial⟩⟩⟩
 ·skip
  refine hw_region ?_
  first
  | refine hq_ 9 (hol_load ty_26 rfl (by first | exact Nat.le_of_ble_eq_true rfl | omega | (dsimp only;omega) | (simp <;> omega)) (by first | exact Nat.le_of_ble_eq_true rfl | omega | (dsimp only;omega) | (simp <;> omega)) (fun h=>(by first | rfl | cases h))) rfl rfl (pre1 rfl) rfl rfl ?_
  | refine hq_ 9 (hop_load_fp ty_26 rfl (by first | exact Nat.le_of_ble_eq_true rfl | omega | (dsimp only;omega) | (simp <;> omega)) (fun h=>(by first | rfl | cases h))) rfl rfl pre0 rfl rfl ?_
  refine sm ?_
  refine s0 (hop_makeBound rfl) ?_
  refine hf_callR 12 (xs:=[_,_]) (pre:=[(9101,_),(9102,_),(9103,_)]) ((hby▸byM_h g g2 g3 L mir hL hok s l1 l2) _) ⟨rfl,⟨rfl,trivial⟩⟩ (preC rfl (preC rfl (preC rfl pre0))) rfl rfl (fun x2 c2 hx2=>?_)
  (try dsimp only)
  refine s0 hex ?_
  refine s0 hex ?_
  first
  | refine hm_s1 (hol_storeW ty_26 rfl rfl rfl rfl) rfl rfl (pre1 rfl) (c':=c2+1) rfl ?_
  | refine hm_s1 (hol_store ty_26 rfl rfl rfl rfl (by first | exact Nat.le_of_ble_eq_true rfl | omega | (dsimp only;omega) | (simp <;> omega)) (by first | exact Nat.le_of_ble_eq_true rfl | omega | (dsimp only;omega) | (simp <;> omega)) (by first | exact Nat.le_of_ble_eq_true rfl | omega | (dsimp only;omega) | (simp <;> omega))) rfl rfl (pre1 rfl) (c':=c2+1) rfl ?_
  refine sa<|snl h4<|hw_ret ?_
  refine hf_retR2 ok hX RetS.one rfl (rvl_cell rfl rfl ty_26 rqc rfl rfl) (rval_tmp rfl) [] rfl pre0 (()) (trivial) (by rfl) (by rfl) ((by rw [hby];exact .fz _ _ (fz_t2 (fz_agg10 fzc fzc fzc fzc fzc fzc fzc fzc (by exact fz_toks y.sl) (by exact fz_mkss y.sets)) (.imm _)))) ?_
  exact ⟨⟨_,rfl,(okz_rtM rfl rfl rfl rfl rfl rfl rfl)⟩,⟨⟨_,rfl,okz_mps⟩,⟨⟨_,rfl,okz_map⟩,trivial⟩⟩⟩
theorem addX_h (g g2:Nat) (L:List (List Rg)) (m:List Rg) (hm:¬ rightM m=true):HFunD Try.prog 21 [.pt 9101 g 0 0,rgsV m] [(9101,rtO g (.os 9102 g2 0 L.length) (.imm (.map none))),(9102,mpsO g2 L)] (intV 1) [(9101,rtO g (.os 9102 g2 0 L.length) (.imm (.map none))),(9102,mpsO g2 L)]:=by
 intro c
 refine hfun_of Try.func21 rfl kr _ _ _ _ rfl 30 rfl rfl (fun X ok hX=>?_)
 refine srg fun N h1=>sa<|snl h1<|hw_seq fun Nh2 h2=>hw_block<|srg fun N h3=>sm ?_
 first
 | refine hq_ 7 (hop_eql_ptn (by kernel_rfl) rfl rfl) rfl rfl pre0 rfl rfl ?_
 | refine hq_ 7 (hop_eql_fpn (by kernel_rfl) rfl rfl) rfl rfl pre0 rfl rfl ?_
 | refine hq_ 7 (hop_eql_nnp (by kernel_rfl) rfl rfl) rfl rfl pre0 rfl rfl ?_
 | refine hq_ 7 (hop_eql_fp rfl rfl rfl) rfl rfl pre0 rfl rfl ?_
 | refine hq_ 7 (hop_eql_pn rfl rfl rfl) rfl rfl pre0 rfl rfl ?_
 refine sa<|snl h3 ?_
 refine wc (fun hc0=>?_) (fun hc0=>?_)
 ·have hr0:=hc0;(try simp only [hcs,Int.reduceToNat] at hc0)
  exfalso;simp at hr0
 have hr0:=hc0;(try simp only [hcs,Int.reduceToNat] at hc0)
 refine srg fun N h4=>sm ?_
 refine s0 (hop_call0 (xs:=[_]) (right_h m) ⟨rfl,trivial⟩ ⟨fe,trivial⟩) ?_
 refine s0 (hop_not rfl) ?_
 refine sa<|snl h4 ?_
 refine wc (fun hc1=>?_) (fun hc1=>?_)
 ·have hr1:=hc1;(try simp only [hcs,Int.reduceToNat] at hc1)
  refine srg fun N h5=>sa<|snl h5<|hw_ret<|hq_block_ret<|hq_then_ret ?_
  refine hf_retR1 ok hX RetS.one rfl (rval_tmp rfl) [] rfl pre0 (()) (trivial) (by rfl) (by rfl) (kza) ?_
  exact ⟨⟨_,rfl,(okz_rtN rfl rfl rfl rfl rfl)⟩,⟨⟨_,rfl,okz_mps⟩,trivial⟩⟩
 have hr1:=hc1;(try simp only [hcs,Int.reduceToNat] at hc1)
 exfalso;exact absurd (by simpa using hr1) hm
theorem over_h (s:St) (m:List Rg) (l1:s.sl.length≤20000) (l2:s.sets.length≤20000) {o:Option St} (ho:overV s m=o):HPure Try.prog 26 [stV s,rgsV m] (optV o):=by
 subst ho
 refine hpure_of Try.func26 rfl kr _ _ _ rfl 15 rfl rfl (fun w F=>?_)
 refine srg fun N h1=>?_
 refine hm_1 2 (hop_box (id:=2) (sz:=10) rfl rfl rfl omx omx) rfl rfl pre0 rfl rfl (c':=1) rfl ?_
 refine hm_1 4 (hop_alloc (id:=4) (sz:=10) zc_26 rfl rfl omx omx) rfl rfl pre0 rfl rfl (c':=2) rfl ?_
 refine sa<|snl h1<|srg fun N h2=>?_
 refine hm_1 6 (hop_alloc (id:=9101) (sz:=2) zc_44 rfl rfl (by decide) (by decide)) rfl rfl pre0 rfl rfl (c':=3) rfl ?_
 refine snl h2<|hw_seq fun Nh3 h3=>hw_seq fun Nh4 h4=>?_
 by_cases hm:rightM m=true
 ·skip
  refine (hsub_ownc 9101 0 9102 1 48 (mpsF []) (rtF (.os 9102 3 0 0) (.imm (.map none))) rfl rfl (fun j hj=>by match j,hj with | 0,_=>exact .inl ⟨rfl,rfl⟩ | 1,_=>exact .inr rfl) (by decide) (by decide) (c':=4) rfl).wp ?_
  refine hw_region<|sm ?_
  refine hf_callR 8 (xs:=[_,_]) (pre:=[(9101,_),(9102,_)]) (addN_h _ 2 3 [] (by decide) m hm) ⟨rfl,⟨rfl,trivial⟩⟩ (preC rfl (preC rfl pre0)) rfl rfl (fun g5 c1 hx1=>?_)
  (try dsimp only)
  refine s0 (hop_neq rfl rfl) ?_
  refine snl h4 ?_
  refine wc (fun hc0=>?_) (fun hc0=>?_)
  ·have hr0:=hc0;(try simp only [hcs,Int.reduceToNat] at hc0)
   exfalso;simp at hr0
  have hr0:=hc0;(try simp only [hcs,Int.reduceToNat] at hc0)
  refine hw_skip<|h3 _<|hw_seq fun Nh5 h5=>?_
  rcases hby:byV (routeV [m] []) s with _ | y
  ·skip
   refine hw_region ?_
   first
   | refine hq_ 11 (hol_load ty_26 rfl (by first | exact Nat.le_of_ble_eq_true rfl | omega | (dsimp only;omega) | (simp <;> omega)) (by first | exact Nat.le_of_ble_eq_true rfl | omega | (dsimp only;omega) | (simp <;> omega)) (fun h=>(by first | rfl | cases h))) rfl rfl (pre1 rfl) rfl rfl ?_
   | refine hq_ 11 (hop_load_fp ty_26 rfl (by first | exact Nat.le_of_ble_eq_true rfl | omega | (dsimp only;omega) | (simp <;> omega)) (fun h=>(by first | rfl | cases h))) rfl rfl pre0 rfl rfl ?_
   refine hf_callR 12 (xs:=[_,_]) (pre:=[(9101,_),(9102,_)]) (thrN_h 2 g5 [m] (by simp) (rtok1 hm) s l1 l2 hby _) ⟨rfl,⟨rfl,trivial⟩⟩ (preC rfl (preC rfl pre0)) rfl rfl (fun x2 c2 hx2=>?_)
   (try dsimp only)
   refine s0 hex ?_
   refine s0 hex ?_
   first
   | refine hm_s1 (hol_storeW ty_26 rfl rfl rfl rfl) rfl rfl (pre1 rfl) (c':=c2+1) rfl ?_
   | refine hm_s1 (hol_store ty_26 rfl rfl rfl rfl (by first | exact Nat.le_of_ble_eq_true rfl | omega | (dsimp only;omega) | (simp <;> omega)) (by first | exact Nat.le_of_ble_eq_true rfl | omega | (dsimp only;omega) | (simp <;> omega)) (by first | exact Nat.le_of_ble_eq_true rfl | omega | (dsimp only;omega) | (simp <;> omega))) rfl rfl (pre1 rfl) (c':=c2+1) rfl ?_
   refine sa<|snl h5<|hw_ret ?_
   refine hq_ret2 rfl (rvl_cell rfl rfl ty_26 rqc rfl rfl) (rval_tmp rfl) [] rfl pre0 ?_
   rw [show overV s m=byV (routeV [m] []) s from if_pos hm,hby];exact fz_t2 (fz_agg10 fzc fzc fzc fzc fzc fzc fzc fzc (by exact fz_toks St.none.sl) (by exact fz_mkss St.none.sets)) (.imm _)
  ·skip
   refine hw_region ?_
   first
   | refine hq_ 11 (hol_load ty_26 rfl (by first | exact Nat.le_of_ble_eq_true rfl | omega | (dsimp only;omega) | (simp <;> omega)) (by first | exact Nat.le_of_ble_eq_true rfl | omega | (dsimp only;omega) | (simp <;> omega)) (fun h=>(by first | rfl | cases h))) rfl rfl (pre1 rfl) rfl rfl ?_
   | refine hq_ 11 (hop_load_fp ty_26 rfl (by first | exact Nat.le_of_ble_eq_true rfl | omega | (dsimp only;omega) | (simp <;> omega)) (fun h=>(by first | rfl | cases h))) rfl rfl pre0 rfl rfl ?_
   refine hf_callR 12 (xs:=[_,_]) (pre:=[(9101,_),(9102,_)]) (thrN_h 2 g5 [m] (by simp) (rtok1 hm) s l1 l2 hby _) ⟨rfl,⟨rfl,trivial⟩⟩ (preC rfl (preC rfl pre0)) rfl rfl (fun x3 c3 hx3=>?_)
   (try dsimp only)
   refine s0 hex ?_
   refine s0 hex ?_
   first
   | refine hm_s1 (hol_storeW ty_26 rfl rfl rfl rfl) rfl rfl (pre1 rfl) (c':=c3+1) rfl ?_
   | refine hm_s1 (hol_store ty_26 rfl rfl rfl rfl (by first | exact Nat.le_of_ble_eq_true rfl | omega | (dsimp only;omega) | (simp <;> omega)) (by first | exact Nat.le_of_ble_eq_true rfl | omega | (dsimp only;omega) | (simp <;> omega)) (by first | exact Nat.le_of_ble_eq_true rfl | omega | (dsimp only;omega) | (simp <;> omega))) rfl rfl (pre1 rfl) (c':=c3+1) rfl ?_
   refine sa<|snl h5<|hw_ret ?_
   refine hq_ret2 rfl (rvl_cell rfl rfl ty_26 rqc rfl rfl) (rval_tmp rfl) [] rfl pre0 ?_
   rw [show overV s m=byV (routeV [m] []) s from if_pos hm,hby];exact fz_t2 (fz_agg10 fzc fzc fzc fzc fzc fzc fzc fzc (by exact fz_toks y.sl) (by exact fz_mkss y.sets)) (.imm _)
 ·skip
  refine (hsub_ownc 9101 0 9102 1 48 (mpsF []) (rtF (.os 9102 3 0 0) (.imm (.map none))) rfl rfl (fun j hj=>by match j,hj with | 0,_=>exact .inl ⟨rfl,rfl⟩ | 1,_=>exact .inr rfl) (by decide) (by decide) (c':=4) rfl).wp ?_
  refine hw_region<|sm ?_
  refine hf_callR 8 (xs:=[_,_]) (pre:=[(9101,_),(9102,_)]) (addX_h 2 3 [] m hm _) ⟨rfl,⟨rfl,trivial⟩⟩ (preC rfl (preC rfl pre0)) rfl rfl (fun x4 c4 hx4=>?_)
  (try dsimp only)
  refine s0 (hop_neq rfl rfl) ?_
  refine snl h4 ?_
  refine wc (fun hc0=>?_) (fun hc0=>?_)
  ·have hr0:=hc0;(try simp only [hcs,Int.reduceToNat] at hc0)
   refine srg fun N h6=>?_
   refine s0 (hop_build (hs:=[]) st_26 rfl rfl trivial) ?_
   first
   | refine hm_s1 (hol_storeW ty_26 rfl rfl rfl rfl) rfl rfl (pre1 rfl) (c':=c4+1) rfl ?_
   | refine hm_s1 (hol_store ty_26 rfl rfl rfl rfl (by first | exact Nat.le_of_ble_eq_true rfl | omega | (dsimp only;omega) | (simp <;> omega)) (by first | exact Nat.le_of_ble_eq_true rfl | omega | (dsimp only;omega) | (simp <;> omega)) (by first | exact Nat.le_of_ble_eq_true rfl | omega | (dsimp only;omega) | (simp <;> omega))) rfl rfl (pre1 rfl) (c':=c4+1) rfl ?_
   refine sa<|snl h6<|hw_ret<|hq_then_ret ?_
   refine hq_ret2 rfl (rvl_cell rfl rfl ty_26 rqc rfl rfl) (rval_tmp rfl) [] rfl pre0 ?_
   rw [show overV s m=Option.none from if_neg hm];exact fz_t2 (fz_agg10 fzc fzc fzc fzc fzc fzc fzc fzc fzc fzc) (.imm _)
  have hr0:=hc0;(try simp only [hcs,Int.reduceToNat] at hc0)
  exfalso;simp at hr0
set_option maxRecDepth 100000 in
set_option maxHeartbeats 4000000 in
theorem Same25_any (x y:Stp) (B1 B2:Nat) (w:World) (hx:x.Ok w B1) (hy:y.Ok w B2) (hB1:B1≤w.heap.size) (hB2:B2≤w.heap.size) (b1:x.n1≤1000000) (b2:y.n1≤1000000) (b3:x.n2≤1000000) (b4:y.n2≤1000000) :
  Calls Try.prog 10 #[.agg x.cells.toArray,.agg y.cells.toArray] w fun e w'=>e=.returned (.bool (decide (x.v=y.v)))∧Below w.heap.size w w':=by
 obtain ⟨⟨k,f,t,gf,gt,ins,mark,vl,sl,sets⟩,a1,n1,c1,a2,n2,c2⟩:=x
 obtain ⟨⟨k',f',t',gf',gt',ins',mark',vl',sl',sets'⟩,a1',n1',c1',a2',n2',c2'⟩:=y
 have HX:=Lib.hid hx
 have HY:=Lib.hid hy
 clear hx hy
 simp only at b1 b2 b3 b4
 simp only [Stp.cells]
 have HB0:Hid (∀ d1 d2,Below w.heap.size w ((w.alloc (.cells d1 26)).alloc (.cells d2 26))):=fun d1 d2=>((Below.refl _ w).alloc (Nat.le_refl _) _).alloc (by simp) _
 by_cases h0:k=k'
 case neg =>
  have hb:(k != k')=true:=by simpa using h0
  have hd:=st_ne (x:=⟨k,f,t,gf,gt,ins,mark,vl,sl,sets⟩) (y:=⟨k',f',t',gf',gt',ins',mark',vl',sl',sets'⟩) (fun e=>h0 e.1)
  clear h0
  go_enter Try.func10,Try.ntmps10
  go_wp2_with fail
  go_ret
  exact ⟨ret_bool hd.symm,HB0.out _ _⟩
 subst h0
 have g0:(k != k)=false:=by simp
 by_cases h1:f=f'
 case neg =>
  have hb:(f != f')=true:=by simpa using h1
  have hd:=st_ne (x:=⟨k,f,t,gf,gt,ins,mark,vl,sl,sets⟩) (y:=⟨k,f',t',gf',gt',ins',mark',vl',sl',sets'⟩) (fun e=>h1 e.2.1)
  clear h1
  go_enter Try.func10,Try.ntmps10
  go_wp2_with fail
  go_ret
  exact ⟨ret_bool hd.symm,HB0.out _ _⟩
 subst h1
 have g1:(f != f)=false:=by simp
 by_cases h2:t=t'
 case neg =>
  have hb:(t != t')=true:=by simpa using h2
  have hd:=st_ne (x:=⟨k,f,t,gf,gt,ins,mark,vl,sl,sets⟩) (y:=⟨k,f,t',gf',gt',ins',mark',vl',sl',sets'⟩) (fun e=>h2 e.2.2.1)
  clear h2
  go_enter Try.func10,Try.ntmps10
  go_wp2_with fail
  go_ret
  exact ⟨ret_bool hd.symm,HB0.out _ _⟩
 subst h2
 have g2:(t != t)=false:=by simp
 by_cases h3:gf=gf'
 case neg =>
  have hb:(gf != gf')=true:=by simpa using h3
  have hd:=st_ne (x:=⟨k,f,t,gf,gt,ins,mark,vl,sl,sets⟩) (y:=⟨k,f,t,gf',gt',ins',mark',vl',sl',sets'⟩) (fun e=>h3 e.2.2.2.1)
  clear h3
  go_enter Try.func10,Try.ntmps10
  go_wp2_with fail
  go_ret
  exact ⟨ret_bool hd.symm,HB0.out _ _⟩
 subst h3
 have g3:(gf != gf)=false:=by simp
 by_cases h4:gt=gt'
 case neg =>
  have hb:(gt != gt')=true:=by simpa using h4
  have hd:=st_ne (x:=⟨k,f,t,gf,gt,ins,mark,vl,sl,sets⟩) (y:=⟨k,f,t,gf,gt',ins',mark',vl',sl',sets'⟩) (fun e=>h4 e.2.2.2.2.1)
  clear h4
  go_enter Try.func10,Try.ntmps10
  go_wp2_with fail
  go_ret
  exact ⟨ret_bool hd.symm,HB0.out _ _⟩
 subst h4
 have g4:(gt != gt)=false:=by simp
 by_cases h5:ins=ins'
 case neg =>
  have hb:(ins != ins')=true:=by simpa using h5
  have hd:=st_ne (x:=⟨k,f,t,gf,gt,ins,mark,vl,sl,sets⟩) (y:=⟨k,f,t,gf,gt,ins',mark',vl',sl',sets'⟩) (fun e=>h5 e.2.2.2.2.2.1)
  clear h5
  go_enter Try.func10,Try.ntmps10
  go_wp2_with fail
  go_ret
  exact ⟨ret_bool hd.symm,HB0.out _ _⟩
 subst h5
 have g5:(ins != ins)=false:=by simp
 by_cases h6:mark=mark'
 case neg =>
  have hb:(mark != mark')=true:=by simpa using h6
  have hd:=st_ne (x:=⟨k,f,t,gf,gt,ins,mark,vl,sl,sets⟩) (y:=⟨k,f,t,gf,gt,ins,mark',vl',sl',sets'⟩) (fun e=>h6 e.2.2.2.2.2.2.1)
  clear h6
  go_enter Try.func10,Try.ntmps10
  go_wp2_with fail
  go_ret
  exact ⟨ret_bool hd.symm,HB0.out _ _⟩
 subst h6
 have g6:(mark != mark)=false:=by simp
 by_cases h7:vl=vl'
 case neg =>
  have hb:(vl != vl')=true:=by simpa using h7
  have hd:=st_ne (x:=⟨k,f,t,gf,gt,ins,mark,vl,sl,sets⟩) (y:=⟨k,f,t,gf,gt,ins,mark,vl',sl',sets'⟩) (fun e=>h7 e.2.2.2.2.2.2.2.1)
  clear h7
  go_enter Try.func10,Try.ntmps10
  go_wp2_with fail
  go_ret
  exact ⟨ret_bool hd.symm,HB0.out _ _⟩
 subst h7
 have g7:(vl != vl)=false:=by simp
 have HT:=Lib.hid (fun w' (hb:Below w.heap.size w w')=>Same13_any a1 a1' n1 n1' c1 c1' B1 B2 sl sl' w' HX.out.1 HY.out.1 (HX.out.2.2.1.below (hb.mono hB1)) (HY.out.2.2.1.below (hb.mono hB2)) (by omega) (by omega))
 have HS:=Lib.hid (fun w' (hb:Below w.heap.size w w')=>Sets_any a2 a2' n2 n2' c2 c2' B1 B2 sets sets' w' HX.out.2.1 HY.out.2.1 (HX.out.2.2.2.1.below (hb.mono hB1)) (HY.out.2.2.2.1.below (hb.mono hB2)) (by omega) (by omega))
 by_cases hl:sl=sl'
 case neg =>
  have hd:decide (sl=sl')=false:=by simpa using hl
  have hr:decide ((⟨k,f,t,gf,gt,ins,mark,vl,sl,sets⟩:St)=⟨k,f,t,gf,gt,ins,mark,vl,sl',sets'⟩)=false:=st_ne (fun e=>hl e.2.2.2.2.2.2.2.2.1)
  clear hl
  go_enter Try.func10,Try.ntmps10
  go_wp2_with (go_at_call 8;refine (HT.out _ (HB0.out _ _)).mono ?_;rintro e w1 ⟨rfl,q,hq⟩)
  go_ret
  exact ⟨ret_bool hr.symm,by subst hq;exact below_drewN (HB0.out _ _) _⟩
 have hd:decide (sl=sl')=true:=by simpa using hl
 have hr:decide ((⟨k,f,t,gf,gt,ins,mark,vl,sl,sets⟩:St)=⟨k,f,t,gf,gt,ins,mark,vl,sl',sets'⟩)=decide (sets=sets'):=by
  subst hl
  exact decide_eq_decide.2 ⟨fun e=>by injection e,fun e=>by subst e;rfl⟩
 clear hl
 go_enter Try.func10,Try.ntmps10
 go_wp2_with (first
  | (go_at_call 8;refine (HT.out _ (HB0.out _ _)).mono ?_;rintro e w1 ⟨rfl,q,rfl⟩)
  | (go_at_call 36;refine (HS.out _ (below_drewN (HB0.out _ _) _)).mono ?_;rintro e w2 ⟨rfl,q2,rfl⟩)
  | fail)
 go_ret
 exact ⟨ret_bool hr.symm,by first | exact below_drewN (HB0.out _ _) _ | exact below_drewN (below_drewN (HB0.out _ _) _) _⟩
@[reducible] def optQ (o:Option St):HV:=t2 (stV (o.getD St.none)) (boolV o.isSome)
theorem optV_q (o:Option St):optV o=optQ o:=by cases o <;> rfl
theorem over_q (s:St) (m:List Rg) (l:s.sl.length≤20000∧s.sets.length≤20000):HPure Try.prog 26 [stV s,rgsV m] (optQ (overV s m)):=optV_q _▸over_h s m l.1 l.2 rfl
theorem same25q_h (a b:St) (l:a.sl.length≤20000∧a.sets.length≤20000) (m:b.sl.length≤20000∧b.sets.length≤20000):HPure Try.prog 10 [stV a,stV b] (boolV (decide (a=b))):=by
 refine ⟨⟨_,_,Try.func10,rfl,by kernel_rfl⟩,fun w F vs hF hr hw=>?_⟩
 obtain ⟨u,v,rfl,hu,hv⟩:=rep2 hr
 obtain ⟨x,rfl,rfl,hx⟩:=stp_of hu
 obtain ⟨y,rfl,rfl,hy⟩:=stp_of hv
 refine (Same25_any x y _ _ w hx hy (Nat.le_refl _) (Nat.le_refl _) (by rw [←hx.1];omega) (by rw [←hy.1];omega) (by rw [←hx.2.1];omega) (by rw [←hy.2.1];omega)).mono ?_
 rintro e w' ⟨rfl,hb⟩
 exact pure_imm hF hb
def exA:St:=⟨1,5,7,0,0,0,0,0,[],[]⟩
def exB:St:=⟨1,8,10,0,0,0,0,0,[],[]⟩
theorem exA1:overV exA [⟨2,0,3⟩]=some exB:=by decide +kernel
theorem exA2:overV exA [⟨4,9,0⟩]=none:=by decide +kernel
theorem live26_h:HPure Try.prog 17 [] (boolV true):=by
 refine hpure_of Try.func17 rfl kr _ _ _ rfl 36 rfl rfl (fun w F=>?_)
 refine srg fun N h1=>sa<|snl h1<|srg fun N h2=>?_
 refine s0 (hop_build (hs:=[(0,1,_),(1,1,_),(2,1,_)]) st_26 rfl rfl ⟨rfl,rfl,rfl,rfl,rfl,⟨rfl,rfl,rfl,rfl,rfl,⟨rfl,rfl,rfl,rfl,rfl,trivial⟩⟩⟩) ?_
 refine hm_1 1 (hop_alloc (id:=1) (sz:=10) zc_26 rfl rfl omx omx) rfl rfl pre0 rfl rfl (c':=1) rfl ?_
 first
 | refine hm_s1 (hol_storeW ty_26 rfl rfl rfl rfl) rfl rfl (pre1 rfl) (c':=2) rfl ?_
 | refine hm_s1 (hol_store ty_26 rfl rfl rfl rfl (by first | exact Nat.le_of_ble_eq_true rfl | omega | (dsimp only;omega) | (simp <;> omega)) (by first | exact Nat.le_of_ble_eq_true rfl | omega | (dsimp only;omega) | (simp <;> omega)) (by first | exact Nat.le_of_ble_eq_true rfl | omega | (dsimp only;omega) | (simp <;> omega))) rfl rfl (pre1 rfl) (c':=2) rfl ?_
 refine snl h2<|srg fun N h3=>?_
 first
 | refine hq_ 8 (hol_load ty_26 rfl (by first | exact Nat.le_of_ble_eq_true rfl | omega | (dsimp only;omega) | (simp <;> omega)) (by first | exact Nat.le_of_ble_eq_true rfl | omega | (dsimp only;omega) | (simp <;> omega)) (fun h=>(by first | rfl | cases h))) rfl rfl (pre1 rfl) rfl rfl ?_
 | refine hq_ 8 (hop_load_fp ty_26 rfl (by first | exact Nat.le_of_ble_eq_true rfl | omega | (dsimp only;omega) | (simp <;> omega)) (fun h=>(by first | rfl | cases h))) rfl rfl pre0 rfl rfl ?_
 refine s0 (hop_build (hs:=[(0,1,_),(2,1,_)]) st_88 rfl rfl ⟨rfl,rfl,rfl,rfl,rfl,⟨rfl,rfl,rfl,rfl,rfl,trivial⟩⟩) ?_
 refine hm_1 10 (hop_buildSlice (id:=10) (hs:=[_]) ei_48 omx rfl omx ⟨rfl,rfl,rfl,rfl,trivial⟩) rfl rfl pre0 rfl rfl (c':=3) rfl ?_
 refine hm_ 11 (hop_call (xs:=[_,_]) [(10,_)] ((exA1▸over_q exA [⟨2,0,3⟩] ⟨by decide,by decide⟩:HPure Try.prog 26 [stV exA,rgsV [⟨2,0,3⟩]] (optQ (some exB)))) ⟨rfl,⟨rfl,trivial⟩⟩ ⟨(fz_agg10 fzc fzc fzc fzc fzc fzc fzc fzc fzc fzc),⟨(fz_row (l:=[(⟨2,0,3⟩:Rg)]) (enc:=rgF) (d:=default) (List.mem_cons_self ..) rfl rfl (Nat.le_refl _) (fz_rg1 rfl rfl rfl)),trivial⟩⟩ rfl) rfl rfl (preC rfl pre0) rfl rfl (c':=4) rfl ?_
 refine sm ?_
 refine s0 hex ?_
 refine s0 hex ?_
 refine hm_1 2 (hop_alloc (id:=2) (sz:=10) zc_26 rfl rfl omx omx) rfl rfl pre0 rfl rfl (c':=5) rfl ?_
 first
 | refine hm_s1 (hol_storeW ty_26 rfl rfl rfl rfl) rfl rfl (pre1 rfl) (c':=6) rfl ?_
 | refine hm_s1 (hol_store ty_26 rfl rfl rfl rfl (by first | exact Nat.le_of_ble_eq_true rfl | omega | (dsimp only;omega) | (simp <;> omega)) (by first | exact Nat.le_of_ble_eq_true rfl | omega | (dsimp only;omega) | (simp <;> omega)) (by first | exact Nat.le_of_ble_eq_true rfl | omega | (dsimp only;omega) | (simp <;> omega))) rfl rfl (pre1 rfl) (c':=6) rfl ?_
 refine sa<|snl h3<|srg fun N h4=>?_
 first
 | refine hq_ 15 (hol_load ty_26 rfl (by first | exact Nat.le_of_ble_eq_true rfl | omega | (dsimp only;omega) | (simp <;> omega)) (by first | exact Nat.le_of_ble_eq_true rfl | omega | (dsimp only;omega) | (simp <;> omega)) (fun h=>(by first | rfl | cases h))) rfl rfl (pre1 rfl) rfl rfl ?_
 | refine hq_ 15 (hop_load_fp ty_26 rfl (by first | exact Nat.le_of_ble_eq_true rfl | omega | (dsimp only;omega) | (simp <;> omega)) (fun h=>(by first | rfl | cases h))) rfl rfl pre0 rfl rfl ?_
 refine s0 (hop_build (hs:=[(0,1,_),(1,1,_)]) st_88 rfl rfl ⟨rfl,rfl,rfl,rfl,rfl,⟨rfl,rfl,rfl,rfl,rfl,trivial⟩⟩) ?_
 refine hm_1 17 (hop_buildSlice (id:=17) (hs:=[_]) ei_48 omx rfl omx ⟨rfl,rfl,rfl,rfl,trivial⟩) rfl rfl pre0 rfl rfl (c':=7) rfl ?_
 refine hm_ 18 (hop_call (xs:=[_,_]) [(17,_)] ((exA2▸over_q exA [⟨4,9,0⟩] ⟨by decide,by decide⟩:HPure Try.prog 26 [stV exA,rgsV [⟨4,9,0⟩]] (optQ none))) ⟨rfl,⟨rfl,trivial⟩⟩ ⟨(fz_agg10 fzc fzc fzc fzc fzc fzc fzc fzc fzc fzc),⟨(fz_row (l:=[(⟨4,9,0⟩:Rg)]) (enc:=rgF) (d:=default) (List.mem_cons_self ..) rfl rfl (Nat.le_refl _) (fz_rg1 rfl rfl rfl)),trivial⟩⟩ rfl) rfl rfl (preC rfl pre0) rfl rfl (c':=8) rfl ?_
 refine sm ?_
 refine s0 hex ?_
 refine s0 hex ?_
 refine hm_1 4 (hop_alloc (id:=4) (sz:=10) zc_26 rfl rfl omx omx) rfl rfl pre0 rfl rfl (c':=9) rfl ?_
 first
 | refine hm_s1 (hol_storeW ty_26 rfl rfl rfl rfl) rfl rfl (pre1 rfl) (c':=10) rfl ?_
 | refine hm_s1 (hol_store ty_26 rfl rfl rfl rfl (by first | exact Nat.le_of_ble_eq_true rfl | omega | (dsimp only;omega) | (simp <;> omega)) (by first | exact Nat.le_of_ble_eq_true rfl | omega | (dsimp only;omega) | (simp <;> omega)) (by first | exact Nat.le_of_ble_eq_true rfl | omega | (dsimp only;omega) | (simp <;> omega))) rfl rfl (pre1 rfl) (c':=10) rfl ?_
 refine sa<|snl h4<|srg fun N h5=>sm<|sm ?_
 first
 | refine stg 22 (fun hb=>hop_fa fd_26_1 rfl) rfl rfl rfl rfl rfl ?_
 | refine sth 22 (fun hb=>hop_fa fd_26_1 rfl) rfl rfl rfl rfl rfl ?_
 | refine stg 22 (fun hb=>hop_fa_fp fd_26_1 rfl (by first | exact Nat.le_of_ble_eq_true rfl | (simp at hb;first | omega | (dsimp only;omega) | (simp <;> omega)) | omega | (dsimp only;omega))) rfl rfl rfl rfl rfl ?_
 | refine sth 22 (fun hb=>hop_fa_fp fd_26_1 rfl (by first | exact Nat.le_of_ble_eq_true rfl | (simp at hb;first | omega | (dsimp only;omega) | (simp <;> omega)) | omega | (dsimp only;omega))) rfl rfl rfl rfl rfl ?_
 first
 | refine hq_g 24 1 22 true _ (fun hb=>HOp.val (v':=intV 8) (hol_load ty_3 rfl (by first | exact Nat.le_of_ble_eq_true rfl | (simp at hb;first | omega | (dsimp only;omega) | (simp <;> omega)) | omega | (dsimp only;omega)) (by first | exact Nat.le_of_ble_eq_true rfl | (simp at hb;first | omega | (dsimp only;omega) | (simp <;> omega)) | omega | (dsimp only;omega)) (fun h=>(by first | rfl | cases h))) (rfl)) rfl rfl rfl rfl (pre1 rfl) rfl rfl rfl ?_
 | refine hq_g2 24 1 22 _ _ true _ (fun hb=>HOp.val (v':=intV 8) (hol_load ty_3 rfl (by first | exact Nat.le_of_ble_eq_true rfl | (simp at hb;first | omega | (dsimp only;omega) | (simp <;> omega)) | omega | (dsimp only;omega)) (by first | exact Nat.le_of_ble_eq_true rfl | (simp at hb;first | omega | (dsimp only;omega) | (simp <;> omega)) | omega | (dsimp only;omega)) (fun h=>(by first | rfl | cases h))) (rfl)) rfl rfl rfl rfl (pre1 rfl) rfl rfl rfl ?_
 | refine stg 22 (fun hb=>HOp.val (v':=intV 8) (hop_load_fp ty_3 rfl (by first | exact Nat.le_of_ble_eq_true rfl | (simp at hb;first | omega | (dsimp only;omega) | (simp <;> omega)) | omega | (dsimp only;omega)) (fun h=>(by first | rfl | cases h))) (rfl)) rfl rfl rfl rfl rfl ?_
 | refine sth 22 (fun hb=>HOp.val (v':=intV 8) (hop_load_fp ty_3 rfl (by first | exact Nat.le_of_ble_eq_true rfl | (simp at hb;first | omega | (dsimp only;omega) | (simp <;> omega)) | omega | (dsimp only;omega)) (fun h=>(by first | rfl | cases h))) (rfl)) rfl rfl rfl rfl rfl ?_
 first
 | refine stg 22 (fun hb=>hop_eql rfl rfl) rfl rfl rfl rfl rfl ?_
 | refine sth 22 (fun hb=>hop_eql rfl rfl) rfl rfl rfl rfl rfl ?_
 first
 | refine hq_p 26 (hstep_and _ _ rfl rfl rfl) rfl rfl rfl ?_
 | refine hq_p 26 (hstep_or _ _ rfl rfl rfl) rfl rfl rfl ?_
 | refine hq_p 26 (hstep_ite _ _ _ rfl rfl rfl) rfl rfl rfl ?_
 | refine hq_p 26 (hstep_pick _ _ _ _ rfl rfl rfl (fun _=>.refl _) (fun _=>.refl _)) rfl rfl rfl ?_
 refine sm ?_
 first
 | refine stg 27 (fun hb=>hop_fa fd_26_2 rfl) rfl rfl rfl rfl rfl ?_
 | refine sth 27 (fun hb=>hop_fa fd_26_2 rfl) rfl rfl rfl rfl rfl ?_
 | refine stg 27 (fun hb=>hop_fa_fp fd_26_2 rfl (by first | exact Nat.le_of_ble_eq_true rfl | (simp at hb;first | omega | (dsimp only;omega) | (simp <;> omega)) | omega | (dsimp only;omega))) rfl rfl rfl rfl rfl ?_
 | refine sth 27 (fun hb=>hop_fa_fp fd_26_2 rfl (by first | exact Nat.le_of_ble_eq_true rfl | (simp at hb;first | omega | (dsimp only;omega) | (simp <;> omega)) | omega | (dsimp only;omega))) rfl rfl rfl rfl rfl ?_
 first
 | refine hq_g 29 6 27 true _ (fun hb=>HOp.val (v':=intV 10) (hol_load ty_3 rfl (by first | exact Nat.le_of_ble_eq_true rfl | (simp at hb;first | omega | (dsimp only;omega) | (simp <;> omega)) | omega | (dsimp only;omega)) (by first | exact Nat.le_of_ble_eq_true rfl | (simp at hb;first | omega | (dsimp only;omega) | (simp <;> omega)) | omega | (dsimp only;omega)) (fun h=>(by first | rfl | cases h))) (rfl)) rfl rfl rfl rfl (pre1 rfl) rfl rfl rfl ?_
 | refine hq_g2 29 6 27 _ _ true _ (fun hb=>HOp.val (v':=intV 10) (hol_load ty_3 rfl (by first | exact Nat.le_of_ble_eq_true rfl | (simp at hb;first | omega | (dsimp only;omega) | (simp <;> omega)) | omega | (dsimp only;omega)) (by first | exact Nat.le_of_ble_eq_true rfl | (simp at hb;first | omega | (dsimp only;omega) | (simp <;> omega)) | omega | (dsimp only;omega)) (fun h=>(by first | rfl | cases h))) (rfl)) rfl rfl rfl rfl (pre1 rfl) rfl rfl rfl ?_
 | refine stg 27 (fun hb=>HOp.val (v':=intV 10) (hop_load_fp ty_3 rfl (by first | exact Nat.le_of_ble_eq_true rfl | (simp at hb;first | omega | (dsimp only;omega) | (simp <;> omega)) | omega | (dsimp only;omega)) (fun h=>(by first | rfl | cases h))) (rfl)) rfl rfl rfl rfl rfl ?_
 | refine sth 27 (fun hb=>HOp.val (v':=intV 10) (hop_load_fp ty_3 rfl (by first | exact Nat.le_of_ble_eq_true rfl | (simp at hb;first | omega | (dsimp only;omega) | (simp <;> omega)) | omega | (dsimp only;omega)) (fun h=>(by first | rfl | cases h))) (rfl)) rfl rfl rfl rfl rfl ?_
 first
 | refine stg 27 (fun hb=>hop_eql rfl rfl) rfl rfl rfl rfl rfl ?_
 | refine sth 27 (fun hb=>hop_eql rfl rfl) rfl rfl rfl rfl rfl ?_
 first
 | refine hq_p 31 (hstep_and _ _ rfl rfl rfl) rfl rfl rfl ?_
 | refine hq_p 31 (hstep_or _ _ rfl rfl rfl) rfl rfl rfl ?_
 | refine hq_p 31 (hstep_ite _ _ _ rfl rfl rfl) rfl rfl rfl ?_
 | refine hq_p 31 (hstep_pick _ _ _ _ rfl rfl rfl (fun _=>.refl _) (fun _=>.refl _)) rfl rfl rfl ?_
 refine sm ?_
 first
 | refine stg 32 (fun hb=>hop_move rfl) rfl rfl rfl rfl rfl ?_
 | refine sth 32 (fun hb=>hop_move rfl) rfl rfl rfl rfl rfl ?_
 first
 | refine stg 32 (fun hb=>hop_not rfl) rfl rfl rfl rfl rfl ?_
 | refine sth 32 (fun hb=>hop_not rfl) rfl rfl rfl rfl rfl ?_
 first
 | refine hq_p 35 (hstep_and _ _ rfl rfl rfl) rfl rfl rfl ?_
 | refine hq_p 35 (hstep_or _ _ rfl rfl rfl) rfl rfl rfl ?_
 | refine hq_p 35 (hstep_ite _ _ _ rfl rfl rfl) rfl rfl rfl ?_
 | refine hq_p 35 (hstep_pick _ _ _ _ rfl rfl rfl (fun _=>.refl _) (fun _=>.refl _)) rfl rfl rfl ?_
 refine sa ?_
 refine nu ?_
 refine h5 _<|hw_ret ?_
 refine hq_ret1 rfl (rval_tmp rfl) [] rfl pre0 ?_
 exact .imm _
end Go.Proofs.Ytkcfhciffdnmmaa
