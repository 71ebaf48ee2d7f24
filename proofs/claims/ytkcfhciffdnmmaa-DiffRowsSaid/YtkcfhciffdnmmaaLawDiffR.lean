/-
  diff: how many can be kept, by the document.
-/
import Derived.Test.YtkcfhciffdnmmaaDi6
import Derived.Test.YtkcfhciffdnmmaaDiffV
import Derived.Test.YtkcfhciffdnmmaaHk
namespace Go.Proofs.Ytkcfhciffdnmmaa
set_option linter.unusedSimpArgs false
set_option linter.unusedVariables false
set_option maxRecDepth 100000
set_option maxHeartbeats 1000000
open Go.RowKit
def lcsR (s:Nat→Nat→Bool) (i k j:Nat):Nat:=if j≤k then lcs s (i+1) j else 0
theorem lcsR_succ {s:Nat→Nat→Bool} {i k:Nat} (j:Nat):lcsR s i (k+1) j=if j=k+1 then lcs s (i+1) (k+1) else lcsR s i k j:=by
 unfold lcsR
 by_cases e:j=k+1
 ·subst e;rw [if_pos (Nat.le_refl _),if_pos rfl]
 ·rw [if_neg e]
  by_cases h:j≤k
  ·rw [if_pos h,if_pos (by omega)]
  ·rw [if_neg h,if_neg (by omega)]
theorem most_h (a b:List Tok) (ha:a.length≤1000) (hb:b.length≤1000):HPure Try.prog 14 [toksV a,toksV b] (intV (lcs (samV a b) a.length b.length:Int)):=by
 have hle:=lcs_le (samV a b)
 refine hpure_of Try.func14 rfl kr _ _ _ rfl 73 rfl rfl (fun w F=>?_)
 refine srg fun N h1=>sa<|snl h1<|srg fun N h2=>sm ?_
 first
 | refine hq_ 10 (hop_len_sl (T:=22) rfl (elOf_spec el_22).1 rfl) rfl rfl pre0 rfl rfl ?_
 | refine hq_ 10 (hop_len_os (T:=22) rfl (elOf_spec el_22).1 rfl) rfl rfl pre0 rfl rfl ?_
 | refine hq_ 10 (hop_len_nil (T:=22) rfl (elOf_spec el_22).1 rfl) rfl rfl pre0 rfl rfl ?_
 first
 | refine hq_ 11 (HOp.val (v':=intV ((b.length+1:Nat):Int)) (hop_addi rfl rfl rfl (by first | exact Nat.le_of_ble_eq_true rfl | omega | (dsimp only;omega) | (simp <;> omega)) (by first | exact Nat.le_of_ble_eq_true rfl | omega | (dsimp only;omega) | (simp <;> omega))) (rfl)) rfl rfl pre0 rfl rfl ?_
 | refine hq_ 11 (HOp.val (v':=intV ((b.length+1:Nat):Int)) (hop_add rfl rfl) (rfl)) rfl rfl pre0 rfl rfl ?_
 refine hm_1 12 (hop_make (id:=9007) (n:=_) (m:=_) ei_45 (nb rfl) (nb rfl) rfl rfl rfl rfl (Nat.le_refl _) om om rfl) rfl rfl pre0 rfl rfl (c':=1) rfl ?_
 refine sa<|snl h2<|hw_seq fun Nh3 h3=>srg fun N h4=>sa<|snl h4<|hw_block ?_
 refine hw_loopc (α:=Nat×Nat) (fun x c=>⟨73,[(0,.v (toksV a)),(1,.v (toksV b)),(5,.v (.os 9007 x.2 0 (b.length+1))),(6,.v (intV (x.1:Int)))],[(9007,rowO1 x.2 (b.length+1) (lcs (samV a b) x.1))],c⟩) (fun x=>x.1≤a.length) (fun x=>a.length - x.1) ((0,0)) (by exact Nat.zero_le _) (hsub_of rfl (Nat.le_refl _) tsa (HpSub.cons rfl (OSub.of fun j z hj hz=>by obtain rfl:z=0:=om;show Sb (intV 0) (intV (lcs (samV a b) 0 j:Int));rw [lcs_0];exact .refl _) HpSub.nil)) (fun x c hx NhL5 hL5=>?_)
 revert hx hL5;obtain ⟨i,g⟩:=x;intro hx hL5;dsimp only at hx hL5 ⊢
 refine hw_seq fun Nh6 h6=>srg fun N h7=>sm<|sm ?_
 first
 | refine hq_ 15 (hop_len_sl (T:=22) rfl (elOf_spec el_22).1 rfl) rfl rfl pre0 rfl rfl ?_
 | refine hq_ 15 (hop_len_os (T:=22) rfl (elOf_spec el_22).1 rfl) rfl rfl pre0 rfl rfl ?_
 | refine hq_ 15 (hop_len_nil (T:=22) rfl (elOf_spec el_22).1 rfl) rfl rfl pre0 rfl rfl ?_
 refine s0 hli ?_
 refine snl h7 ?_
 refine wc (fun hc0=>?_) (fun hc0=>?_)
 ·have hr0:=hc0;(try simp only [hcs,Int.reduceToNat] at hc0)
  have hil:i < a.length:=om;let c0:=c
  refine hw_skip<|h6 _<|hw_seq fun Nh8 h8=>hw_block<|srg fun N h9=>sm ?_
  first
  | refine hq_ 20 (hop_len_sl (T:=22) rfl (elOf_spec el_22).1 rfl) rfl rfl pre0 rfl rfl ?_
  | refine hq_ 20 (hop_len_os (T:=22) rfl (elOf_spec el_22).1 rfl) rfl rfl pre0 rfl rfl ?_
  | refine hq_ 20 (hop_len_nil (T:=22) rfl (elOf_spec el_22).1 rfl) rfl rfl pre0 rfl rfl ?_
  first
  | refine hq_ 21 (HOp.val (v':=intV ((b.length+1:Nat):Int)) (hop_addi rfl rfl rfl (by first | exact Nat.le_of_ble_eq_true rfl | omega | (dsimp only;omega) | (simp <;> omega)) (by first | exact Nat.le_of_ble_eq_true rfl | omega | (dsimp only;omega) | (simp <;> omega))) (rfl)) rfl rfl pre0 rfl rfl ?_
  | refine hq_ 21 (HOp.val (v':=intV ((b.length+1:Nat):Int)) (hop_add rfl rfl) (rfl)) rfl rfl pre0 rfl rfl ?_
  refine hm_1 22 (hop_make (id:=22) (n:=_) (m:=_) ei_45 omx omx rfl rfl rfl rfl omx omx omx rfl) rfl rfl pre0 rfl rfl (c':=c+1) rfl ?_
  refine sa<|snl h9<|hw_seq fun Nh10 h10=>srg fun N h11=>sa<|snl h11<|hw_block ?_
  refine hw_loopc (α:=Nat) (fun x c=>⟨73,[(0,.v (toksV a)),(1,.v (toksV b)),(5,.v (.os 9007 g 0 (b.length+1))),(6,.v (intV (i:Int))),(7,.v (.os 22 c0 0 (b.length+1))),(8,.v (intV (x:Int)))],[(9007,rowO1 g (b.length+1) (lcs (samV a b) i)),(22,rowO1 c0 (b.length+1) (lcsR (samV a b) i x))],c⟩) (fun x=>x≤b.length) (fun x=>b.length - x) (0) (by exact Nat.zero_le _) (hsub_of rfl (Nat.le_refl _) tsa (hsr rfl (HpSub.cons rfl (OSub.of fun j z hj hz=>by obtain rfl:z=0:=om;show Sb (intV 0) (intV (lcsR (samV a b) i 0 j:Int));rw [show lcsR (samV a b) i 0 j=0 by unfold lcsR;split;(rename_i h;rw [show j=0 by omega,lcs_0r]);rfl];exact .refl _) HpSub.nil))) (fun k c hx NhL12 hL12=>?_)
  (try dsimp only at hx hL12 ⊢)
  refine hw_seq fun Nh13 h13=>srg fun N h14=>sm<|sm ?_
  first
  | refine hq_ 25 (hop_len_sl (T:=22) rfl (elOf_spec el_22).1 rfl) rfl rfl pre0 rfl rfl ?_
  | refine hq_ 25 (hop_len_os (T:=22) rfl (elOf_spec el_22).1 rfl) rfl rfl pre0 rfl rfl ?_
  | refine hq_ 25 (hop_len_nil (T:=22) rfl (elOf_spec el_22).1 rfl) rfl rfl pre0 rfl rfl ?_
  refine s0 hli ?_
  refine snl h14 ?_
  refine wc (fun hc1=>?_) (fun hc1=>?_)
  ·have hr1:=hc1;(try simp only [hcs,Int.reduceToNat] at hc1)
   have hkl:k < b.length:=om;have hl1:=hle i (k+1);have hl2:=hle (i+1) k;have hl3:=hle i k
   refine hw_skip<|h13 _<|hw_seq fun Nh15 h15=>hw_block<|hw_seq fun Nh16 h16=>hd_start ?_
   refine dm 1 ?_
   refine dm 2 ?_
   first
   | refine hd_q 31 (hop_addi rfl rfl rfl (by first | exact Nat.le_of_ble_eq_true rfl | omega | (dsimp only;omega) | (simp <;> omega)) (by first | exact Nat.le_of_ble_eq_true rfl | omega | (dsimp only;omega) | (simp <;> omega))) rfl rfl pre0 rfl rfl (k':=3) rfl ?_
   | refine hd_q 31 (hop_add rfl rfl) rfl rfl pre0 rfl rfl (k':=3) rfl ?_
   refine dm 4 ?_
   refine dm 5 ?_
   first
   | refine hd_q 34 (hop_addi rfl rfl rfl (by first | exact Nat.le_of_ble_eq_true rfl | omega | (dsimp only;omega) | (simp <;> omega)) (by first | exact Nat.le_of_ble_eq_true rfl | omega | (dsimp only;omega) | (simp <;> omega))) rfl rfl pre0 rfl rfl (k':=6) rfl ?_
   | refine hd_q 34 (hop_add rfl rfl) rfl rfl pre0 rfl rfl (k':=6) rfl ?_
   first
   | refine hd_q 35 (hop_ia_sl el_45 rfl rfl (by first | exact Nat.le_of_ble_eq_true rfl | omega | (dsimp only;omega) | (simp <;> omega)) (by first | exact Nat.le_of_ble_eq_true rfl | omega | (dsimp only;omega) | (simp <;> omega)) (by first | exact Nat.le_of_ble_eq_true rfl | omega | (dsimp only;omega) | (simp <;> omega))) rfl rfl pre0 rfl rfl (k':=7) rfl ?_
   | refine hd_q 35 (hol_ia_os el_45 rfl rfl (by first | exact Nat.le_of_ble_eq_true rfl | omega | (dsimp only;omega) | (simp <;> omega)) (by first | exact Nat.le_of_ble_eq_true rfl | omega | (dsimp only;omega) | (simp <;> omega))) rfl rfl (pre1 rfl) rfl rfl (k':=7) rfl ?_
   first
   | refine hd_q 36 (HOp.val (v':=intV ((lcs (samV a b) i (k+1):Nat):Int)) (hol_load ty_3 rfl (by first | exact Nat.le_of_ble_eq_true rfl | omega | (dsimp only;omega) | (simp <;> omega)) (by first | exact Nat.le_of_ble_eq_true rfl | omega | (dsimp only;omega) | (simp <;> omega)) (fun h=>(by first | rfl | cases h))) ((by show intV ((lcs (samV a b) i (0+((k:Int)+1).toNat):Nat):Int)=_;rw [show 0+((k:Int)+1).toNat=k+1 by omega]))) rfl rfl (pre1 rfl) rfl rfl (k':=8) rfl ?_
   | refine hd_q 36 (HOp.val (v':=intV ((lcs (samV a b) i (k+1):Nat):Int)) (hop_load_fp ty_3 rfl (by first | exact Nat.le_of_ble_eq_true rfl | omega | (dsimp only;omega) | (simp <;> omega)) (fun h=>(by first | rfl | cases h))) ((by show intV ((lcs (samV a b) i (0+((k:Int)+1).toNat):Nat):Int)=_;rw [show 0+((k:Int)+1).toNat=k+1 by omega]))) rfl rfl pre0 rfl rfl (k':=8) rfl ?_
   refine dm 9 ?_
   refine dm 10 ?_
   first
   | refine hd_q 39 (hop_ia_sl el_45 rfl rfl (by first | exact Nat.le_of_ble_eq_true rfl | omega | (dsimp only;omega) | (simp <;> omega)) (by first | exact Nat.le_of_ble_eq_true rfl | omega | (dsimp only;omega) | (simp <;> omega)) (by first | exact Nat.le_of_ble_eq_true rfl | omega | (dsimp only;omega) | (simp <;> omega))) rfl rfl pre0 rfl rfl (k':=11) rfl ?_
   | refine hd_q 39 (hol_ia_os el_45 rfl rfl (by first | exact Nat.le_of_ble_eq_true rfl | omega | (dsimp only;omega) | (simp <;> omega)) (by first | exact Nat.le_of_ble_eq_true rfl | omega | (dsimp only;omega) | (simp <;> omega))) rfl rfl (pre1 rfl) rfl rfl (k':=11) rfl ?_
   first
   | refine hd_q 40 (HOp.val (v':=intV ((lcs (samV a b) (i+1) k:Nat):Int)) (hol_load ty_3 rfl (by first | exact Nat.le_of_ble_eq_true rfl | omega | (dsimp only;omega) | (simp <;> omega)) (by first | exact Nat.le_of_ble_eq_true rfl | omega | (dsimp only;omega) | (simp <;> omega)) (fun h=>(by first | rfl | cases h))) ((by show intV ((lcsR (samV a b) i k (0+(k:Int).toNat):Nat):Int)=_;rw [show 0+(k:Int).toNat=k by omega];unfold lcsR;rw [if_pos (Nat.le_refl _)]))) rfl rfl (pre1 rfl) rfl rfl (k':=12) rfl ?_
   | refine hd_q 40 (HOp.val (v':=intV ((lcs (samV a b) (i+1) k:Nat):Int)) (hop_load_fp ty_3 rfl (by first | exact Nat.le_of_ble_eq_true rfl | omega | (dsimp only;omega) | (simp <;> omega)) (fun h=>(by first | rfl | cases h))) ((by show intV ((lcsR (samV a b) i k (0+(k:Int).toNat):Nat):Int)=_;rw [show 0+(k:Int).toNat=k by omega];unfold lcsR;rw [if_pos (Nat.le_refl _)]))) rfl rfl pre0 rfl rfl (k':=12) rfl ?_
   refine d0 13 (HOp.val (v':=intV ((max (lcs (samV a b) i (k+1)) (lcs (samV a b) (i+1) k):Nat):Int)) (hop_max rfl rfl) (congrArg intV (by omega))) ?_
   first
   | refine hd_q 42 (hop_ia_sl el_45 rfl rfl (by first | exact Nat.le_of_ble_eq_true rfl | omega | (dsimp only;omega) | (simp <;> omega)) (by first | exact Nat.le_of_ble_eq_true rfl | omega | (dsimp only;omega) | (simp <;> omega)) (by first | exact Nat.le_of_ble_eq_true rfl | omega | (dsimp only;omega) | (simp <;> omega))) rfl rfl pre0 rfl rfl (k':=14) rfl ?_
   | refine hd_q 42 (hol_ia_os el_45 rfl rfl (by first | exact Nat.le_of_ble_eq_true rfl | omega | (dsimp only;omega) | (simp <;> omega)) (by first | exact Nat.le_of_ble_eq_true rfl | omega | (dsimp only;omega) | (simp <;> omega))) rfl rfl (pre1 rfl) rfl rfl (k':=14) rfl ?_
   first
   | refine hd_s1 (hol_storeW ty_3 rfl rfl rfl rfl) rfl rfl (pre1 rfl) (k':=15) rfl ?_
   | refine hd_s1 (hol_store ty_3 rfl rfl rfl rfl (by first | exact Nat.le_of_ble_eq_true rfl | omega | (dsimp only;omega) | (simp <;> omega)) (by first | exact Nat.le_of_ble_eq_true rfl | omega | (dsimp only;omega) | (simp <;> omega)) (by first | exact Nat.le_of_ble_eq_true rfl | omega | (dsimp only;omega) | (simp <;> omega))) rfl rfl (pre1 rfl) (k':=15) rfl ?_
   refine hd_nil kr kr (c':=c+15) rfl ?_
   refine h16 _<|hw_seq fun Nh17 h17=>hd_start ?_
   refine dm 1 ?_
   refine dm 2 ?_
   first
   | refine hd_q 45 (hop_ia_sl el_22 rfl rfl (by first | exact Nat.le_of_ble_eq_true rfl | omega | (dsimp only;omega) | (simp <;> omega)) (by first | exact Nat.le_of_ble_eq_true rfl | omega | (dsimp only;omega) | (simp <;> omega)) (by first | exact Nat.le_of_ble_eq_true rfl | omega | (dsimp only;omega) | (simp <;> omega))) rfl rfl pre0 rfl rfl (k':=3) rfl ?_
   | refine hd_q 45 (hol_ia_os el_22 rfl rfl (by first | exact Nat.le_of_ble_eq_true rfl | omega | (dsimp only;omega) | (simp <;> omega)) (by first | exact Nat.le_of_ble_eq_true rfl | omega | (dsimp only;omega) | (simp <;> omega))) rfl rfl (pre1 rfl) rfl rfl (k':=3) rfl ?_
   first
   | refine hd_q 46 (hol_load ty_71 rfl (by first | exact Nat.le_of_ble_eq_true rfl | omega | (dsimp only;omega) | (simp <;> omega)) (by first | exact Nat.le_of_ble_eq_true rfl | omega | (dsimp only;omega) | (simp <;> omega)) (fun h=>(by first | rfl | cases h))) rfl rfl (pre1 rfl) rfl rfl (k':=4) rfl ?_
   | refine hd_q 46 (hop_load_fp ty_71 rfl (by first | exact Nat.le_of_ble_eq_true rfl | omega | (dsimp only;omega) | (simp <;> omega)) (fun h=>(by first | rfl | cases h))) rfl rfl pre0 rfl rfl (k':=4) rfl ?_
   refine dm 5 ?_
   refine dm 6 ?_
   first
   | refine hd_q 49 (hop_ia_sl el_22 rfl rfl (by first | exact Nat.le_of_ble_eq_true rfl | omega | (dsimp only;omega) | (simp <;> omega)) (by first | exact Nat.le_of_ble_eq_true rfl | omega | (dsimp only;omega) | (simp <;> omega)) (by first | exact Nat.le_of_ble_eq_true rfl | omega | (dsimp only;omega) | (simp <;> omega))) rfl rfl pre0 rfl rfl (k':=7) rfl ?_
   | refine hd_q 49 (hol_ia_os el_22 rfl rfl (by first | exact Nat.le_of_ble_eq_true rfl | omega | (dsimp only;omega) | (simp <;> omega)) (by first | exact Nat.le_of_ble_eq_true rfl | omega | (dsimp only;omega) | (simp <;> omega))) rfl rfl (pre1 rfl) rfl rfl (k':=7) rfl ?_
   first
   | refine hd_q 50 (hol_load ty_71 rfl (by first | exact Nat.le_of_ble_eq_true rfl | omega | (dsimp only;omega) | (simp <;> omega)) (by first | exact Nat.le_of_ble_eq_true rfl | omega | (dsimp only;omega) | (simp <;> omega)) (fun h=>(by first | rfl | cases h))) rfl rfl (pre1 rfl) rfl rfl (k':=8) rfl ?_
   | refine hd_q 50 (hop_load_fp ty_71 rfl (by first | exact Nat.le_of_ble_eq_true rfl | omega | (dsimp only;omega) | (simp <;> omega)) (fun h=>(by first | rfl | cases h))) rfl rfl pre0 rfl rfl (k':=8) rfl ?_
   refine d0 9 (hop_eql_tok _ _ rfl rfl rfl (fun _ _=>rfl) (fun _ _=>rfl)) ?_
   refine hd_nil kr kr (c':=c+24) rfl ?_
   refine h17 _ ?_
   refine wc (fun hc2=>?_) (fun hc2=>?_)
   ·have hr2:=hc2;(try simp only [hcs,Int.reduceToNat] at hc2)
    have hs1:samV a b i k=true:=samV_iff.2 ⟨hil,hkl,hc2⟩
    refine hd_start ?_
    refine dm 1 ?_
    refine dm 2 ?_
    first
    | refine hd_q 54 (hop_addi rfl rfl rfl (by first | exact Nat.le_of_ble_eq_true rfl | omega | (dsimp only;omega) | (simp <;> omega)) (by first | exact Nat.le_of_ble_eq_true rfl | omega | (dsimp only;omega) | (simp <;> omega))) rfl rfl pre0 rfl rfl (k':=3) rfl ?_
    | refine hd_q 54 (hop_add rfl rfl) rfl rfl pre0 rfl rfl (k':=3) rfl ?_
    refine dm 4 ?_
    refine dm 5 ?_
    first
    | refine hd_q 57 (hop_addi rfl rfl rfl (by first | exact Nat.le_of_ble_eq_true rfl | omega | (dsimp only;omega) | (simp <;> omega)) (by first | exact Nat.le_of_ble_eq_true rfl | omega | (dsimp only;omega) | (simp <;> omega))) rfl rfl pre0 rfl rfl (k':=6) rfl ?_
    | refine hd_q 57 (hop_add rfl rfl) rfl rfl pre0 rfl rfl (k':=6) rfl ?_
    first
    | refine hd_q 58 (hop_ia_sl el_45 rfl rfl (by first | exact Nat.le_of_ble_eq_true rfl | omega | (dsimp only;omega) | (simp <;> omega)) (by first | exact Nat.le_of_ble_eq_true rfl | omega | (dsimp only;omega) | (simp <;> omega)) (by first | exact Nat.le_of_ble_eq_true rfl | omega | (dsimp only;omega) | (simp <;> omega))) rfl rfl pre0 rfl rfl (k':=7) rfl ?_
    | refine hd_q 58 (hol_ia_os el_45 rfl rfl (by first | exact Nat.le_of_ble_eq_true rfl | omega | (dsimp only;omega) | (simp <;> omega)) (by first | exact Nat.le_of_ble_eq_true rfl | omega | (dsimp only;omega) | (simp <;> omega))) rfl rfl (pre1 rfl) rfl rfl (k':=7) rfl ?_
    first
    | refine hd_q 59 (HOp.val (v':=intV ((max (lcs (samV a b) i (k+1)) (lcs (samV a b) (i+1) k):Nat):Int)) (hol_load ty_3 rfl (by first | exact Nat.le_of_ble_eq_true rfl | omega | (dsimp only;omega) | (simp <;> omega)) (by first | exact Nat.le_of_ble_eq_true rfl | omega | (dsimp only;omega) | (simp <;> omega)) (fun h=>(by first | rfl | cases h))) ((by exact updA.trans (if_pos rfl)))) rfl rfl (pre1 rfl) rfl rfl (k':=8) rfl ?_
    | refine hd_q 59 (HOp.val (v':=intV ((max (lcs (samV a b) i (k+1)) (lcs (samV a b) (i+1) k):Nat):Int)) (hop_load_fp ty_3 rfl (by first | exact Nat.le_of_ble_eq_true rfl | omega | (dsimp only;omega) | (simp <;> omega)) (fun h=>(by first | rfl | cases h))) ((by exact updA.trans (if_pos rfl)))) rfl rfl pre0 rfl rfl (k':=8) rfl ?_
    refine dm 9 ?_
    refine dm 10 ?_
    first
    | refine hd_q 62 (hop_ia_sl el_45 rfl rfl (by first | exact Nat.le_of_ble_eq_true rfl | omega | (dsimp only;omega) | (simp <;> omega)) (by first | exact Nat.le_of_ble_eq_true rfl | omega | (dsimp only;omega) | (simp <;> omega)) (by first | exact Nat.le_of_ble_eq_true rfl | omega | (dsimp only;omega) | (simp <;> omega))) rfl rfl pre0 rfl rfl (k':=11) rfl ?_
    | refine hd_q 62 (hol_ia_os el_45 rfl rfl (by first | exact Nat.le_of_ble_eq_true rfl | omega | (dsimp only;omega) | (simp <;> omega)) (by first | exact Nat.le_of_ble_eq_true rfl | omega | (dsimp only;omega) | (simp <;> omega))) rfl rfl (pre1 rfl) rfl rfl (k':=11) rfl ?_
    first
    | refine hd_q 63 (HOp.val (v':=intV ((lcs (samV a b) i k:Nat):Int)) (hol_load ty_3 rfl (by first | exact Nat.le_of_ble_eq_true rfl | omega | (dsimp only;omega) | (simp <;> omega)) (by first | exact Nat.le_of_ble_eq_true rfl | omega | (dsimp only;omega) | (simp <;> omega)) (fun h=>(by first | rfl | cases h))) ((by show intV ((lcs (samV a b) i (0+(k:Int).toNat):Nat):Int)=_;rw [show 0+(k:Int).toNat=k by omega]))) rfl rfl (pre1 rfl) rfl rfl (k':=12) rfl ?_
    | refine hd_q 63 (HOp.val (v':=intV ((lcs (samV a b) i k:Nat):Int)) (hop_load_fp ty_3 rfl (by first | exact Nat.le_of_ble_eq_true rfl | omega | (dsimp only;omega) | (simp <;> omega)) (fun h=>(by first | rfl | cases h))) ((by show intV ((lcs (samV a b) i (0+(k:Int).toNat):Nat):Int)=_;rw [show 0+(k:Int).toNat=k by omega]))) rfl rfl pre0 rfl rfl (k':=12) rfl ?_
    first
    | refine hd_q 64 (HOp.val (v':=intV ((lcs (samV a b) i k+1:Nat):Int)) (hop_addi rfl rfl rfl (by first | exact Nat.le_of_ble_eq_true rfl | omega | (dsimp only;omega) | (simp <;> omega)) (by first | exact Nat.le_of_ble_eq_true rfl | omega | (dsimp only;omega) | (simp <;> omega))) (rfl)) rfl rfl pre0 rfl rfl (k':=13) rfl ?_
    | refine hd_q 64 (HOp.val (v':=intV ((lcs (samV a b) i k+1:Nat):Int)) (hop_add rfl rfl) (rfl)) rfl rfl pre0 rfl rfl (k':=13) rfl ?_
    refine d0 14 (HOp.val (v':=intV ((max (max (lcs (samV a b) i (k+1)) (lcs (samV a b) (i+1) k)) (lcs (samV a b) i k+1):Nat):Int)) (hop_max rfl rfl) (congrArg intV (by omega))) ?_
    first
    | refine hd_q 66 (hop_ia_sl el_45 rfl rfl (by first | exact Nat.le_of_ble_eq_true rfl | omega | (dsimp only;omega) | (simp <;> omega)) (by first | exact Nat.le_of_ble_eq_true rfl | omega | (dsimp only;omega) | (simp <;> omega)) (by first | exact Nat.le_of_ble_eq_true rfl | omega | (dsimp only;omega) | (simp <;> omega))) rfl rfl pre0 rfl rfl (k':=15) rfl ?_
    | refine hd_q 66 (hol_ia_os el_45 rfl rfl (by first | exact Nat.le_of_ble_eq_true rfl | omega | (dsimp only;omega) | (simp <;> omega)) (by first | exact Nat.le_of_ble_eq_true rfl | omega | (dsimp only;omega) | (simp <;> omega))) rfl rfl (pre1 rfl) rfl rfl (k':=15) rfl ?_
    first
    | refine hd_s1 (hol_storeW ty_3 rfl rfl rfl rfl) rfl rfl (pre1 rfl) (k':=16) rfl ?_
    | refine hd_s1 (hol_store ty_3 rfl rfl rfl rfl (by first | exact Nat.le_of_ble_eq_true rfl | omega | (dsimp only;omega) | (simp <;> omega)) (by first | exact Nat.le_of_ble_eq_true rfl | omega | (dsimp only;omega) | (simp <;> omega)) (by first | exact Nat.le_of_ble_eq_true rfl | omega | (dsimp only;omega) | (simp <;> omega))) rfl rfl (pre1 rfl) (k':=16) rfl ?_
    refine hd_nil kr kr (c':=c+40) rfl ?_
    refine hq_block<|h15 _<|hw_region<|sm ?_
    first
    | refine hq_ 28 (hop_addi rfl rfl rfl (by first | exact Nat.le_of_ble_eq_true rfl | omega | (dsimp only;omega) | (simp <;> omega)) (by first | exact Nat.le_of_ble_eq_true rfl | omega | (dsimp only;omega) | (simp <;> omega))) rfl rfl pre0 rfl rfl ?_
    | refine hq_ 28 (hop_add rfl rfl) rfl rfl pre0 rfl rfl ?_
    refine sa<|hseq_nil ?_
    exact hL12 (k+1) _ _ (by (try dsimp only);omega) (by (try dsimp only);omega) (hsub_of rfl (Nat.le_refl _) tsa (hsr rfl (HpSub.cons rfl (OSub.of fun j z hj hz=>by obtain rfl:z=0:=om;rw [updA,updA,show 0+((k:Int)+1).toNat=k+1 by omega];show Sb _ (intV (lcsR (samV a b) i (k+1) j:Int));rw [lcsR_succ,lcs.eq_3,if_pos hs1];by_cases e:j=k+1;(rw [if_pos e,if_pos e];exact .refl _);(rw [if_neg e,if_neg e,if_neg e];exact .refl _)) HpSub.nil)))
   have hr2:=hc2;(try simp only [hcs,Int.reduceToNat] at hc2)
   have hs1:¬ samV a b i k=true:=fun h9=>hc2 (samV_iff.1 h9).2.2
   refine hw_skip<|hq_block<|h15 _<|hw_region<|sm ?_
   first
   | refine hq_ 28 (hop_addi rfl rfl rfl (by first | exact Nat.le_of_ble_eq_true rfl | omega | (dsimp only;omega) | (simp <;> omega)) (by first | exact Nat.le_of_ble_eq_true rfl | omega | (dsimp only;omega) | (simp <;> omega))) rfl rfl pre0 rfl rfl ?_
   | refine hq_ 28 (hop_add rfl rfl) rfl rfl pre0 rfl rfl ?_
   refine sa<|hseq_nil ?_
   exact hL12 (k+1) _ _ (by (try dsimp only);omega) (by (try dsimp only);omega) (hsub_of rfl (Nat.le_refl _) tsa (hsr rfl (HpSub.cons rfl (OSub.of fun j z hj hz=>by obtain rfl:z=0:=om;rw [updA,show 0+((k:Int)+1).toNat=k+1 by omega];show Sb _ (intV (lcsR (samV a b) i (k+1) j:Int));rw [lcsR_succ,lcs_no _ hs1];by_cases e:j=k+1;(rw [if_pos e,if_pos e];exact .refl _);(rw [if_neg e,if_neg e];exact .refl _)) HpSub.nil)))
  have hr1:=hc1;(try simp only [hcs,Int.reduceToNat] at hc1)
  have hkl:k=b.length:=om
  refine hw_exit ?_
  refine hq_then_exit<|hq_then_exit<|hq_block_here<|h10 _<|hw_region<|sm<|sa<|hseq_nil<|hq_block<|h8 _<|hw_region<|sm ?_
  first
  | refine hq_ 18 (hop_addi rfl rfl rfl (by first | exact Nat.le_of_ble_eq_true rfl | omega | (dsimp only;omega) | (simp <;> omega)) (by first | exact Nat.le_of_ble_eq_true rfl | omega | (dsimp only;omega) | (simp <;> omega))) rfl rfl pre0 rfl rfl ?_
  | refine hq_ 18 (hop_add rfl rfl) rfl rfl pre0 rfl rfl ?_
  refine sa<|hseq_nil ?_
  exact hL5 ((i+1,c)) _ _ (by (try dsimp only);omega) (by (try dsimp only);omega) (HSub.trans (hsub_ren 5 22 9007 [] rfl rfl rfl (fun k o h=>by cases h) (c':=c+1) rfl) (hsub_of rfl (Nat.le_refl _) tsa (HpSub.cons rfl (OSub.of fun j z hj hz=>by obtain rfl:z=0:=om;show Sb (intV (lcsR (samV a b) i k j:Int)) (intV (lcs (samV a b) (i+1) j:Int));unfold lcsR;rw [if_pos om];exact .refl _) HpSub.nil)))
 have hr0:=hc0;(try simp only [hcs,Int.reduceToNat] at hc0)
 have hil:i=a.length:=om
 refine hw_exit ?_
 refine hq_then_exit<|hq_then_exit<|hq_block_here<|h3 _<|srg fun N h18=>sm<|sm ?_
 first
 | refine hq_ 70 (hop_len_sl (T:=22) rfl (elOf_spec el_22).1 rfl) rfl rfl pre0 rfl rfl ?_
 | refine hq_ 70 (hop_len_os (T:=22) rfl (elOf_spec el_22).1 rfl) rfl rfl pre0 rfl rfl ?_
 | refine hq_ 70 (hop_len_nil (T:=22) rfl (elOf_spec el_22).1 rfl) rfl rfl pre0 rfl rfl ?_
 first
 | refine hq_ 71 (hop_ia_sl el_45 rfl rfl (by first | exact Nat.le_of_ble_eq_true rfl | omega | (dsimp only;omega) | (simp <;> omega)) (by first | exact Nat.le_of_ble_eq_true rfl | omega | (dsimp only;omega) | (simp <;> omega)) (by first | exact Nat.le_of_ble_eq_true rfl | omega | (dsimp only;omega) | (simp <;> omega))) rfl rfl pre0 rfl rfl ?_
 | refine hq_ 71 (hol_ia_os el_45 rfl rfl (by first | exact Nat.le_of_ble_eq_true rfl | omega | (dsimp only;omega) | (simp <;> omega)) (by first | exact Nat.le_of_ble_eq_true rfl | omega | (dsimp only;omega) | (simp <;> omega))) rfl rfl (pre1 rfl) rfl rfl ?_
 first
 | refine hq_ 72 (HOp.val (v':=intV ((lcs (samV a b) a.length b.length:Nat):Int)) (hol_load ty_3 rfl (by first | exact Nat.le_of_ble_eq_true rfl | omega | (dsimp only;omega) | (simp <;> omega)) (by first | exact Nat.le_of_ble_eq_true rfl | omega | (dsimp only;omega) | (simp <;> omega)) (fun h=>(by first | rfl | cases h))) ((by show intV ((lcs (samV a b) i (0+(b.length:Int).toNat):Nat):Int)=_;rw [show 0+(b.length:Int).toNat=b.length by omega,hil]))) rfl rfl (pre1 rfl) rfl rfl ?_
 | refine hq_ 72 (HOp.val (v':=intV ((lcs (samV a b) a.length b.length:Nat):Int)) (hop_load_fp ty_3 rfl (by first | exact Nat.le_of_ble_eq_true rfl | omega | (dsimp only;omega) | (simp <;> omega)) (fun h=>(by first | rfl | cases h))) ((by show intV ((lcs (samV a b) i (0+(b.length:Int).toNat):Nat):Int)=_;rw [show 0+(b.length:Int).toNat=b.length by omega,hil]))) rfl rfl pre0 rfl rfl ?_
 refine sa<|snl h18<|hw_ret ?_
 refine hq_ret1 rfl (rval_tmp rfl) [] rfl pre0 ?_
 exact Frz.fz
@[reducible] def prtsO (g:Nat) (l:List Prt):HObj:=⟨g,l.length,4,82,0,prtsF l⟩
@[reducible] def atO (g:Nat) (x:Nat):HObj:=⟨g,1,1,3,0,fun _ _=>intV (x:Int)⟩
@[reducible] def outO (g g2:Nat) (n:Nat):HObj:=⟨g,1,1,32,0,fun _ _=>.os 9005 g2 0 n⟩
@[reducible] def bO (g:Nat) (b:List Tok):HObj:=⟨g,1,1,22,0,fun _ _=>toksV b⟩
theorem prts_snoc {l:List Prt} {p:Prt} {h:HV} (hh:∀ j,j < 4→Sb (h.cell j) (partF p j)) (i j:Nat) (hi:i < l.length+1) (hj:j < 4):Sb (cat l.length (prtsF l) (bsf [h]) i j) (prtsF (l++[p]) i j) :=
 sb_cat (enc:=partF) (d:=default) (k:=[p]) rfl (fun _ _ _ _=>.refl _) (sb_one (fun j hj=>hh j hj)) i j (by simpa using hi) hj
theorem fz_prtc {sh:List (Nat×HObj)} {l:List Prt} {p:Prt} {h:HV} (hh:∀ j,j < 4→Fz sh (h.cell j) (partF p j)) (i j:Nat) (hi:i < l.length+1) (hj:j < 4):Fz sh (cat l.length (prtsF l) (bsf [h]) i j) (prtsF (l++[p]) i j) :=
 fz_cat (enc:=partF) (d:=default) (k:=[p]) rfl (fun _ _ _ _=>fz_partF _ _) (fun i j hi hj=>by
  obtain rfl:i=0:=by simpa using hi
  exact hh j hj) i j (by simpa using hi) hj
theorem okz_prtc {kp sh:List (Nat×HObj)} {g:Nat} {l l':List Prt} {p:Prt} {h:HV} (hl:l'=l++[p]) (hh:∀ j,j < 4→Fz sh (h.cell j) (partF p j)):OKz kp sh ⟨g,l.length+1,4,82,0,cat l.length (prtsF l) (bsf [h])⟩ (prtsO g l'):=by
 subst hl
 exact ⟨rfl,by simp,rfl,rfl,Nat.le_refl _,fun i j hi hj=>.fz _ _ (fz_prtc hh i j hi hj),fun h=>absurd h (Nat.not_lt_zero _)⟩
theorem okz_prts {kp sh:List (Nat×HObj)} {g:Nat} {l l':List Prt} (hl:l'=l):OKz kp sh (prtsO g l) (prtsO g l'):=by
 subst hl;exact .of fun i j hi hj=>.fz _ _ (fz_partF _ _)
theorem okz_at {kp sh:List (Nat×HObj)} {g x:Nat}:OKz kp sh (atO g x) (atO g x):=.of fun i j hi hj=>.fz _ _ (.imm _)
theorem okz_b {kp sh:List (Nat×HObj)} {g:Nat} {b:List Tok}:OKz kp sh (bO g b) (bO g b):=.of fun i j hi hj=>.fz _ _ (fz_toks _)
theorem okz_out {kp sh:List (Nat×HObj)} {g g2 n n':Nat} {o:HObj} {F:Nat→Nat→HV} (hF:F 0 0=.os 9005 g2 0 n) (hn:n=n') (h:hget kp 9005=some o) (hg:o.g=g2):OKz kp sh ⟨g,1,1,32,0,F⟩ (outO g g2 n'):=.of fun i j hi hj=>by
 obtain rfl:i=0:=by omega
 obtain rfl:j=0:=by omega
 subst hn
 rw [hF];exact .os _ _ _ _ _ h hg
theorem fresh_h (c gA gO gB g:Nat) (b:List Tok) (hb:b.length≤1000) (l:List Prt) (hl:l.length≤10000) (x y:Nat) (hx:x≤b.length) (hy:y≤b.length) :
  HFun Try.prog 40 c [intV (y:Int),.pt 9013 gA 0 0,.pt 9012 gO 0 0,.pt 9011 gB 0 0] [(9013,atO gA x),(9012,outO gO g l.length),(9011,bO gB b),(9005,prtsO g l)]
   (RetP (fun (_:Nat) _=>True) (fun _=>.tup 0 fun _=>default) (fun g'=>[(9013,atO gA x),(9012,outO gO g' (freshV b l x y).length),(9011,bO gB b),(9005,prtsO g' (freshV b l x y))])):=by
 refine hfun_of Try.func40 rfl kr _ _ _ _ rfl 16 rfl rfl (fun X ok hX=>?_)
 refine srg fun N h1=>sm ?_
 first
 | refine hq_ 6 (hol_load ty_3 rfl (by first | exact Nat.le_of_ble_eq_true rfl | omega | (dsimp only;omega) | (simp <;> omega)) (by first | exact Nat.le_of_ble_eq_true rfl | omega | (dsimp only;omega) | (simp <;> omega)) (fun h=>(by first | rfl | cases h))) rfl rfl (pre1 rfl) rfl rfl ?_
 | refine hq_ 6 (hop_load_fp ty_3 rfl (by first | exact Nat.le_of_ble_eq_true rfl | omega | (dsimp only;omega) | (simp <;> omega)) (fun h=>(by first | rfl | cases h))) rfl rfl pre0 rfl rfl ?_
 refine s0 (hop_gtr rfl rfl) ?_
 refine snl h1 ?_
 refine wc (fun hc0=>?_) (fun hc0=>?_)
 ·have hr0:=hc0;(try simp only [hcs,Int.reduceToNat] at hc0)
  have hlt:x < y:=by omega
  refine hd_start ?_
  first
  | refine hd_q 8 (hol_load ty_32 rfl (by first | exact Nat.le_of_ble_eq_true rfl | omega | (dsimp only;omega) | (simp <;> omega)) (by first | exact Nat.le_of_ble_eq_true rfl | omega | (dsimp only;omega) | (simp <;> omega)) (fun h=>(by first | rfl | cases h))) rfl rfl (pre1 rfl) rfl rfl (k':=1) rfl ?_
  | refine hd_q 8 (hop_load_fp ty_32 rfl (by first | exact Nat.le_of_ble_eq_true rfl | omega | (dsimp only;omega) | (simp <;> omega)) (fun h=>(by first | rfl | cases h))) rfl rfl pre0 rfl rfl (k':=1) rfl ?_
  first
  | refine hd_q 9 (hol_load ty_22 rfl (by first | exact Nat.le_of_ble_eq_true rfl | omega | (dsimp only;omega) | (simp <;> omega)) (by first | exact Nat.le_of_ble_eq_true rfl | omega | (dsimp only;omega) | (simp <;> omega)) (fun h=>(by first | rfl | cases h))) rfl rfl (pre1 rfl) rfl rfl (k':=2) rfl ?_
  | refine hd_q 9 (hop_load_fp ty_22 rfl (by first | exact Nat.le_of_ble_eq_true rfl | omega | (dsimp only;omega) | (simp <;> omega)) (fun h=>(by first | rfl | cases h))) rfl rfl pre0 rfl rfl (k':=2) rfl ?_
  first
  | refine hd_q 10 (hol_load ty_3 rfl (by first | exact Nat.le_of_ble_eq_true rfl | omega | (dsimp only;omega) | (simp <;> omega)) (by first | exact Nat.le_of_ble_eq_true rfl | omega | (dsimp only;omega) | (simp <;> omega)) (fun h=>(by first | rfl | cases h))) rfl rfl (pre1 rfl) rfl rfl (k':=3) rfl ?_
  | refine hd_q 10 (hop_load_fp ty_3 rfl (by first | exact Nat.le_of_ble_eq_true rfl | omega | (dsimp only;omega) | (simp <;> omega)) (fun h=>(by first | rfl | cases h))) rfl rfl pre0 rfl rfl (k':=3) rfl ?_
  refine dm 4 ?_
  first
  | refine hd_q 12 (hop_cut_sl el_22 rfl (.inr ⟨_,_,rfl,rfl⟩) (.inr ⟨_,_,rfl,rfl⟩) (by first | exact Nat.le_of_ble_eq_true rfl | omega | (dsimp only;omega) | (simp <;> omega)) (by first | exact Nat.le_of_ble_eq_true rfl | omega | (dsimp only;omega) | (simp <;> omega)) (by first | exact Nat.le_of_ble_eq_true rfl | omega | (dsimp only;omega) | (simp <;> omega))) rfl rfl pre0 rfl rfl (k':=5) rfl ?_
  | refine hd_q 12 (hol_cut_os el_22 rfl (.inr ⟨_,_,rfl,rfl⟩) (.inr ⟨_,_,rfl,rfl⟩) (by first | exact Nat.le_of_ble_eq_true rfl | omega | (dsimp only;omega) | (simp <;> omega)) (by first | exact Nat.le_of_ble_eq_true rfl | omega | (dsimp only;omega) | (simp <;> omega)) (by first | exact Nat.le_of_ble_eq_true rfl | omega | (dsimp only;omega) | (simp <;> omega))) rfl rfl (pre1 rfl) rfl rfl (k':=5) rfl ?_
  refine d0 6 (hop_call0 (xs:=[_]) (put_h ((b.take y).drop x) (by rw [List.length_drop,List.length_take];omega) (by rw [List.length_drop,List.length_take];omega)) ⟨rfl,trivial⟩ ⟨(fz_cut (by rw [List.length_drop,List.length_take];omega) (fun i j hi hj=>by rw [cut_get om];rfl)),trivial⟩) ?_
  refine hd_1 14 (hop_buildSlice (id:=14) (hs:=[_]) ei_32 omx rfl omx ⟨rfl,rfl,rfl,rfl,trivial⟩) rfl rfl pre0 rfl rfl (k':=7) rfl ?_
  first
  | refine hd_1 15 (hol_append ei_32 (by first | exact Nat.le_of_ble_eq_true rfl | omega | (dsimp only;omega) | (simp <;> omega)) rfl (by first | exact Nat.le_of_ble_eq_true rfl | omega | (dsimp only;omega) | (simp <;> omega)) (by first | exact Nat.le_of_ble_eq_true rfl | omega | (dsimp only;omega) | (simp <;> omega)) (srl_os0 rfl (by first | exact Nat.le_of_ble_eq_true rfl | omega | (dsimp only;omega) | (simp <;> omega))) (by first | exact Nat.le_of_ble_eq_true rfl | omega | (dsimp only;omega) | (simp <;> omega)) rfl) rfl rfl (preC rfl (pre1 rfl)) rfl rfl (k':=8) rfl ?_
  | refine hd_1 15 (hol_append ei_32 (by first | exact Nat.le_of_ble_eq_true rfl | omega | (dsimp only;omega) | (simp <;> omega)) rfl (by first | exact Nat.le_of_ble_eq_true rfl | omega | (dsimp only;omega) | (simp <;> omega)) (by first | exact Nat.le_of_ble_eq_true rfl | omega | (dsimp only;omega) | (simp <;> omega)) (srl_os rfl (by first | exact Nat.le_of_ble_eq_true rfl | omega | (dsimp only;omega) | (simp <;> omega))) (by first | exact Nat.le_of_ble_eq_true rfl | omega | (dsimp only;omega) | (simp <;> omega)) rfl) rfl rfl (preC rfl (pre1 rfl)) rfl rfl (k':=8) rfl ?_
  | refine hd_1 15 (hol_append ei_32 (by first | exact Nat.le_of_ble_eq_true rfl | omega | (dsimp only;omega) | (simp <;> omega)) rfl (by first | exact Nat.le_of_ble_eq_true rfl | omega | (dsimp only;omega) | (simp <;> omega)) (by first | exact Nat.le_of_ble_eq_true rfl | omega | (dsimp only;omega) | (simp <;> omega)) (src_sl rfl) (by first | exact Nat.le_of_ble_eq_true rfl | omega | (dsimp only;omega) | (simp <;> omega)) rfl) rfl rfl (preC rfl pre0) rfl rfl (k':=8) rfl ?_
  | refine hd_1 15 (hol_append ei_32 (by first | exact Nat.le_of_ble_eq_true rfl | omega | (dsimp only;omega) | (simp <;> omega)) rfl (by first | exact Nat.le_of_ble_eq_true rfl | omega | (dsimp only;omega) | (simp <;> omega)) (by first | exact Nat.le_of_ble_eq_true rfl | omega | (dsimp only;omega) | (simp <;> omega)) (src_nil 4 (fun _ _=>default) rfl) (by first | exact Nat.le_of_ble_eq_true rfl | omega | (dsimp only;omega) | (simp <;> omega)) rfl) rfl rfl (preC rfl pre0) rfl rfl (k':=8) rfl ?_
  first
  | refine hd_s1 (hol_storeW ty_32 rfl rfl rfl rfl) rfl rfl (pre1 rfl) (k':=9) rfl ?_
  | refine hd_s1 (hol_store ty_32 rfl rfl rfl rfl (by first | exact Nat.le_of_ble_eq_true rfl | omega | (dsimp only;omega) | (simp <;> omega)) (by first | exact Nat.le_of_ble_eq_true rfl | omega | (dsimp only;omega) | (simp <;> omega)) (by first | exact Nat.le_of_ble_eq_true rfl | omega | (dsimp only;omega) | (simp <;> omega))) rfl rfl (pre1 rfl) (k':=9) rfl ?_
  refine hd_nil kr kr (c':=c+9) rfl ?_
  refine hq_fall ?_
  refine hf_retR0 ok hX RetS.one rfl  [] rfl pre0 ((c+7)) (trivial) (by rfl) (by rfl) (kza) ?_
  exact ⟨⟨_,rfl,okz_at⟩,⟨⟨_,rfl,(okz_out rfl (by unfold freshV;rw [if_pos hlt,List.length_append];rfl) rfl rfl)⟩,⟨⟨_,rfl,okz_b⟩,⟨⟨_,rfl,(okz_prtc (p:=⟨false,0,0,(b.take y).drop x⟩) (by unfold freshV;rw [if_pos hlt]) (fun j hj=>fz_partF _ _))⟩,trivial⟩⟩⟩⟩
 have hr0:=hc0;(try simp only [hcs,Int.reduceToNat] at hc0)
 have hlt:¬ x < y:=by omega
 refine hw_skip ?_
 refine hq_fall ?_
 refine hf_retR0 ok hX RetS.one rfl  [] rfl pre0 (g) (trivial) (by rfl) (by rfl) (kza) ?_
 exact ⟨⟨_,rfl,okz_at⟩,⟨⟨_,rfl,(okz_out rfl (by unfold freshV;rw [if_neg hlt]) rfl rfl)⟩,⟨⟨_,rfl,okz_b⟩,⟨⟨_,rfl,(okz_prts (by unfold freshV;rw [if_neg hlt]))⟩,trivial⟩⟩⟩⟩
theorem upd41 {F:Nat→Nat→HV} {q k j:Nat} {x:Nat→HV}:upd F q 2 1 x k j=if k=q∧j=2 then x 0 else F k j:=by
 unfold upd inb
 by_cases e:k=q
 ·subst e
  have:Nat.beq k k=true:=by simp
  by_cases e2:j=2
  ·subst e2
   have h0:(Nat.ble 2 2&&Nat.blt 2 (2+1))=true:=by simp
   rw [h0,this,if_pos ⟨rfl,rfl⟩];rfl
  ·have h0:(Nat.ble 2 j&&Nat.blt j (2+1))=false:=by
    rw [Bool.eq_false_iff]
    intro h
    rw [Bool.and_eq_true,Nat.ble_eq,Nat.blt_eq] at h
    omega
   rw [h0,this,if_neg (by omega)];rfl
 ·have:Nat.beq k q=false:=(by rw [Bool.eq_false_iff];intro h;exact e (Nat.eq_of_beq_eq_true h))
  rw [this,if_neg (by omega)];rfl
theorem glue_put {l:List Prt} {x q:Nat} {z:Nat→HV} (h:0 < l.length∧(l.getD (l.length - 1) default).old=true∧(l.getD (l.length - 1) default).t=x) (hq:q=l.length - 1) (hz:z 0=intV ((x+1:Nat):Int)) (i j:Nat) (hi:i < l.length) (hj:j < 4):upd (prtsF l) q 2 1 z i j=prtsF (glueV l x) i j:=by
 subst hq
 rw [upd41]
 unfold glueV
 rw [if_pos h]
 show _=partF ((l.set (l.length - 1) _).getD i default) j
 by_cases e:i=l.length - 1
 ·subst e
  rw [List.getD_eq_getElem?_getD (l:=l.set _ _),List.getElem?_set_self (by omega)]
  rw [Option.getD_some]
  by_cases e2:j=2
  ·subst e2;rw [if_pos ⟨rfl,rfl⟩,hz];rfl
  ·rw [if_neg (by omega)]
   have ho:(l.getD (l.length - 1) default).old=true:=h.2.1
   match j,hj,e2 with
   | 0,_,_=>show boolV (l.getD (l.length - 1) default).old=boolV true;rw [ho]
   | 1,_,_=>rfl
   | 3,_,_=>rfl
 ·rw [if_neg (by omega),List.getD_eq_getElem?_getD (l:=l.set _ _),List.getElem?_set_ne (by omega)]
  show partF (l.getD i default) j=_
  rw [List.getD_eq_getElem?_getD]
theorem fz_prts {sh:List (Nat×HObj)} {g:Nat} {l l':List Prt} (ho:(9005,prtsO g l)∈sh) (hl:l'=l) {n:Nat} (hn:n=l.length):Fz sh (.os 9005 g 0 n) (prtsV l'):=by
 subst hl;subst hn
 exact fz_row (l:=l') (enc:=partF) (d:=default) ho rfl rfl (Nat.le_refl _) (fun i j _ _=>fz_partF _ _)
theorem glue_len_yes {l:List Prt} {x:Nat} (h:0 < l.length∧(l.getD (l.length - 1) default).old=true∧(l.getD (l.length - 1) default).t=x):(glueV l x).length=l.length:=by unfold glueV;rw [if_pos h,List.length_set]
theorem glue_no {l:List Prt} {x:Nat} (h:¬ (0 < l.length∧(l.getD (l.length - 1) default).old=true∧(l.getD (l.length - 1) default).t=x)):glueV l x=l++[⟨true,x,x+1,[]⟩]:=by unfold glueV;rw [if_neg h]
theorem fz_fin {sh:List (Nat×HObj)} {g g2 D:Nat} {a b:List Tok} {R:Nat→Nat→Nat} (h1:(9001,finO g a b (.os 9002 g2 0 D))∈sh) (h2:(9002,rowsO g2 D R)∈sh):Fz sh (.pt 9001 g 0 0) (finV a b D R):=by
 refine .pt 9001 g 0 0 3 _ _ h1 rfl (Nat.lt_succ_self 0) (Nat.le_refl _) (fun j hj=>?_)
 match j,hj with
 | 0,_=>exact fz_toks _
 | 1,_=>exact fz_toks _
 | 2,_=>exact Fz.os 9002 g2 0 D _ _ h2 rfl (by show 0+D≤D;omega) (fun i j hi hj=>by
   have hj:j < 1:=hj
   obtain rfl:j=0:=by omega
   show Fz sh (rowsF R (0+i) 0) (rowsF R i 0)
   rw [Nat.zero_add];exact fz_rows _ _ _)
theorem parts_h (a b:List Tok) (ha:a.length≤150) (hb:b.length≤150):HPure Try.prog 11 [toksV a,toksV b] (prtsV (partsV b (keepV (samV a b) a.length b.length))):=by
 have hs:∀ i k,samV a b i k=true→i < a.length∧k < b.length:=fun _ _=>samV_lt
 have hri:=keepV_rises (samV a b) a.length b.length hs
 have hkl:=keepV_len (samV a b) a.length b.length hs
 have hll:=lcs_le (samV a b) a.length b.length
 have hkh:=fun R hR=>keeps_h a b ha hb R hR
 generalize hks:keepV (samV a b) a.length b.length=ks at *
 have hat:=fun i hi=>samV_lt (hri.at i hi)
 have hpl:=partsI_len b ks
 have hpa:=fun i hi=>partsI_at b (ks:=ks) i hi
 refine hpure_of Try.func11 rfl kr _ _ _ rfl 85 rfl rfl (fun w F=>?_)
 refine srg fun N h1=>?_
 refine hm_1 3 (hop_box (id:=9011) (sz:=1) rfl rfl rfl (nb rfl) (nb rfl)) rfl rfl pre0 rfl rfl (c':=1) rfl ?_
 refine sa<|snl h1<|srg fun N h2=>sm ?_
 first
 | refine hq_ 14 (hol_load ty_22 rfl (by first | exact Nat.le_of_ble_eq_true rfl | omega | (dsimp only;omega) | (simp <;> omega)) (by first | exact Nat.le_of_ble_eq_true rfl | omega | (dsimp only;omega) | (simp <;> omega)) (fun h=>(by first | rfl | cases h))) rfl rfl (pre1 rfl) rfl rfl ?_
 | refine hq_ 14 (hop_load_fp ty_22 rfl (by first | exact Nat.le_of_ble_eq_true rfl | omega | (dsimp only;omega) | (simp <;> omega)) (fun h=>(by first | rfl | cases h))) rfl rfl pre0 rfl rfl ?_
 refine s0 (hop_build (hs:=[(0,1,_),(1,1,_)]) st_77 rfl rfl ⟨rfl,rfl,rfl,rfl,rfl,⟨rfl,rfl,rfl,rfl,rfl,trivial⟩⟩) ?_
 refine hm_1 16 (hop_box (id:=9001) (sz:=3) rfl rfl rfl (nb rfl) (nb rfl)) rfl rfl pre0 rfl rfl (c':=2) rfl ?_
 refine sa<|snl h2<|srg fun N h3=>sa<|snl h3<|hw_seq fun Nh4 h4=>hw_seq fun Nh5 h5=>?_
 refine (hsub_ownc 9001 2 9002 1 45 (rowsF (fun _ _=>0)) (finF a b (.os 9002 2 0 0)) rfl rfl (fun j hj=>by match j,hj with | 0,_=>exact .inr rfl | 1,_=>exact .inr rfl | 2,_=>exact .inl ⟨rfl,rfl⟩) (by decide) (by decide) (c':=3) rfl).wp ?_
 refine hw_region<|sm ?_
 refine hf_callR 18 (xs:=[_]) (pre:=[(9001,_),(9002,_)]) (find_h a b ha hb 1 2 (fun _ _=>0) _) ⟨rfl,trivial⟩ (preC rfl (preC rfl pre0)) rfl rfl (fun x1 c1 hR=>?_)
 obtain ⟨g2,R⟩:=x1
 (try dsimp only)
 refine snl h5 ?_
 refine wc (fun hc0=>?_) (fun hc0=>?_)
 ·have hr0:=hc0;(try simp only [hcs,Int.reduceToNat] at hc0)
  refine hw_region<|sm ?_
  refine hm_ 20 (hop_call (xs:=[_]) [(9001,_),(9002,_)] (hkh R hR) ⟨rfl,trivial⟩ ⟨(fz_fin (.head _) (.tail _ (.head _))),trivial⟩ rfl) rfl rfl (preC rfl (preC rfl pre0)) rfl rfl (c':=c1+1) rfl ?_
  refine sa<|snl h4<|srg fun N h6=>?_
  refine hm_1 7 (hop_alloc (id:=9012) (sz:=1) zc_32 rfl rfl (nb rfl) (nb rfl)) rfl rfl pre0 rfl rfl (c':=c1+2) rfl ?_
  refine snl h6<|srg fun N h7=>?_
  refine hm_1 8 (hop_alloc (id:=9013) (sz:=1) zc_3 rfl rfl (nb rfl) (nb rfl)) rfl rfl pre0 rfl rfl (c':=c1+3) rfl ?_
  first
  | refine hm_s1 (hol_storeW ty_3 rfl rfl rfl rfl) rfl rfl (pre1 rfl) (c':=c1+4) rfl ?_
  | refine hm_s1 (hol_store ty_3 rfl rfl rfl rfl (by first | exact Nat.le_of_ble_eq_true rfl | omega | (dsimp only;omega) | (simp <;> omega)) (by first | exact Nat.le_of_ble_eq_true rfl | omega | (dsimp only;omega) | (simp <;> omega)) (by first | exact Nat.le_of_ble_eq_true rfl | omega | (dsimp only;omega) | (simp <;> omega))) rfl rfl (pre1 rfl) (c':=c1+4) rfl ?_
  refine snl h7<|hw_seq fun Nh8 h8=>?_
  refine (hsub_ownc 9012 0 9005 4 82 (prtsF []) (fun _ _=>.os 9005 (c1+4) 0 0) rfl rfl (fun j hj=>.inl ⟨by omega,rfl⟩) (by decide) (by decide) (c':=c1+5) rfl).wp ?_
  refine hw_region ?_
  refine s0 (hop_makeFunc (hs:=[_,_,_]) ⟨rfl,⟨rfl,⟨rfl,trivial⟩⟩⟩) ?_
  refine sa<|snl h8<|hw_seq fun Nh9 h9=>srg fun N h10=>sm ?_
  first
  | refine hq_ 26 (hop_len_sl (T:=78) rfl (elOf_spec el_78).1 rfl) rfl rfl pre0 rfl rfl ?_
  | refine hq_ 26 (hop_len_os (T:=78) rfl (elOf_spec el_78).1 rfl) rfl rfl pre0 rfl rfl ?_
  | refine hq_ 26 (hop_len_nil (T:=78) rfl (elOf_spec el_78).1 rfl) rfl rfl pre0 rfl rfl ?_
  refine sm<|snl h10<|hw_block ?_
  refine hw_loopc (α:=Nat×Nat) (fun x c=>⟨85,[(3,.v (.pt 9011 0 0 0)),(7,.v (.pt 9012 (c1+1) 0 0)),(8,.v (.pt 9013 (c1+2) 0 0)),(9,.v (.fn (.func 40) 3 (fun q=>[HV.pt 9013 (c1+2) 0 0,.pt 9012 (c1+1) 0 0,.pt 9011 0 0 0].getD q default))),(25,.v (pairsV ks)),(26,.v (intV (ks.length:Int))),(27,.v (intV (x.1:Int)))],[(9013,atO (c1+2) (partsI b (ks.take x.1)).2),(9012,outO (c1+1) x.2 (partsI b (ks.take x.1)).1.length),(9011,bO 0 b),(9005,prtsO x.2 (partsI b (ks.take x.1)).1)],c⟩) (fun x=>x.1≤ks.length) (fun x=>ks.length - x.1) ((0,c1+4)) (by exact Nat.zero_le _) (hsub_of rfl (Nat.le_refl _) (tsr rfl (tsr rfl (tsr rfl (tsr rfl (tsr rfl (tsr rfl (TmSub.cons rfl (sb_intV rfl) TmSub.nil))))))) (HpSub.cons rfl (by dsimp only;rw [List.take_zero];exact OSub.of fun _ _ _ _=>.refl _) (HpSub.cons rfl (by dsimp only;rw [List.take_zero];exact .refl _) (hsr rfl (HpSub.cons rfl (by dsimp only;rw [List.take_zero];exact .refl _) HpSub.nil))))) (fun x c hx NhL11 hL11=>?_)
  revert hx hL11;obtain ⟨i,g⟩:=x;intro hx hL11;dsimp only at hx hL11 ⊢
  refine srg fun N h12=>?_
  refine s0 hli ?_
  refine snl h12<|hw_seq fun Nh13 h13=>?_
  refine wc (fun hc1=>?_) (fun hc1=>?_)
  ·have hr1:=hc1;(try simp only [hcs,Int.reduceToNat] at hc1)
   have hil:i < ks.length:=om;obtain ⟨hp1,hp2⟩:=hat i hil;have hpli:=hpl i;have hpai:=hpa i om
   refine hw_skip<|h13 _<|hw_seq fun Nh14 h14=>hw_block<|srg fun N h15=>?_
   first
   | refine hq_ 29 (hop_ia_sl el_78 rfl rfl (by first | exact Nat.le_of_ble_eq_true rfl | omega | (dsimp only;omega) | (simp <;> omega)) (by first | exact Nat.le_of_ble_eq_true rfl | omega | (dsimp only;omega) | (simp <;> omega)) (by first | exact Nat.le_of_ble_eq_true rfl | omega | (dsimp only;omega) | (simp <;> omega))) rfl rfl pre0 rfl rfl ?_
   | refine hq_ 29 (hol_ia_os el_78 rfl rfl (by first | exact Nat.le_of_ble_eq_true rfl | omega | (dsimp only;omega) | (simp <;> omega)) (by first | exact Nat.le_of_ble_eq_true rfl | omega | (dsimp only;omega) | (simp <;> omega))) rfl rfl (pre1 rfl) rfl rfl ?_
   first
   | refine hq_ 30 (hol_load ty_85 rfl (by first | exact Nat.le_of_ble_eq_true rfl | omega | (dsimp only;omega) | (simp <;> omega)) (by first | exact Nat.le_of_ble_eq_true rfl | omega | (dsimp only;omega) | (simp <;> omega)) (fun h=>(by first | rfl | cases h))) rfl rfl (pre1 rfl) rfl rfl ?_
   | refine hq_ 30 (hop_load_fp ty_85 rfl (by first | exact Nat.le_of_ble_eq_true rfl | omega | (dsimp only;omega) | (simp <;> omega)) (fun h=>(by first | rfl | cases h))) rfl rfl pre0 rfl rfl ?_
   refine hm_1 11 (hop_alloc (id:=11) (sz:=2) zc_85 rfl rfl omx omx) rfl rfl pre0 rfl rfl (c':=c+1) rfl ?_
   first
   | refine hm_s1 (hol_storeW ty_85 rfl rfl rfl rfl) rfl rfl (pre1 rfl) (c':=c+2) rfl ?_
   | refine hm_s1 (hol_store ty_85 rfl rfl rfl rfl (by first | exact Nat.le_of_ble_eq_true rfl | omega | (dsimp only;omega) | (simp <;> omega)) (by first | exact Nat.le_of_ble_eq_true rfl | omega | (dsimp only;omega) | (simp <;> omega)) (by first | exact Nat.le_of_ble_eq_true rfl | omega | (dsimp only;omega) | (simp <;> omega))) rfl rfl (pre1 rfl) (c':=c+2) rfl ?_
   refine snl h15<|srg fun N h16=>sm ?_
   first
   | refine hq_ 32 (hop_ia_arp al_85 rfl rfl (by first | exact Nat.le_of_ble_eq_true rfl | omega | (dsimp only;omega) | (simp <;> omega)) (by first | exact Nat.le_of_ble_eq_true rfl | omega | (dsimp only;omega) | (simp <;> omega))) rfl rfl pre0 rfl rfl ?_
   | refine hq_ 32 (hop_ia_arf al_85 rfl rfl (by first | exact Nat.le_of_ble_eq_true rfl | omega | (dsimp only;omega) | (simp <;> omega)) (by first | exact Nat.le_of_ble_eq_true rfl | omega | (dsimp only;omega) | (simp <;> omega)) (by first | exact Nat.le_of_ble_eq_true rfl | omega | (dsimp only;omega) | (simp <;> omega))) rfl rfl pre0 rfl rfl ?_
   first
   | refine hq_ 33 (HOp.val (v':=intV ((ks.getD i (0,0)).2:Int)) (hol_load ty_3 rfl (by first | exact Nat.le_of_ble_eq_true rfl | omega | (dsimp only;omega) | (simp <;> omega)) (by first | exact Nat.le_of_ble_eq_true rfl | omega | (dsimp only;omega) | (simp <;> omega)) (fun h=>(by first | rfl | cases h))) (rfl)) rfl rfl (pre1 rfl) rfl rfl ?_
   | refine hq_ 33 (HOp.val (v':=intV ((ks.getD i (0,0)).2:Int)) (hop_load_fp ty_3 rfl (by first | exact Nat.le_of_ble_eq_true rfl | omega | (dsimp only;omega) | (simp <;> omega)) (fun h=>(by first | rfl | cases h))) (rfl)) rfl rfl pre0 rfl rfl ?_
   refine hf_callVR 34 (xs:=[_]) (cs:=[_,_,_]) (pre:=[(9013,_),(9012,_),(9011,_),(9005,_)]) (fresh_h _ (c1+2) (c1+1) 0 g b om (partsI b (ks.take i)).1 om (partsI b (ks.take i)).2 (ks.getD i (0,0)).2 (by rw [hpai];split;(omega);(have:=(hat (i - 1) om).2;omega)) om) rfl rfl (fun i hi=>by first | rfl | (rcases i with _ | _ | _ | i <;> first | rfl | (exact absurd hi om) | (simp at hi))) ⟨rfl,trivial⟩ (preC rfl (preC rfl (preC rfl (preC rfl pre0)))) rfl rfl (fun g3 c2 hx2=>?_)
   (try dsimp only)
   refine snl h16<|hw_seq fun Nh17 h17=>?_
   have hfl:=freshV_len b (partsI b (ks.take i)).1 (partsI b (ks.take i)).2 (ks.getD i (0,0)).2;generalize hl1:freshV b (partsI b (ks.take i)).1 (partsI b (ks.take i)).2 (ks.getD i (0,0)).2=l1 at hfl ⊢;have hnx:partsI b (ks.take (i+1))=(glueV l1 (ks.getD i (0,0)).1,(ks.getD i (0,0)).2+1):=(by rw [partsI_next b hil,←hl1];rfl)
   refine hw_region ?_
   first
   | refine hq_ 35 (hop_ia_arp al_85 rfl rfl (by first | exact Nat.le_of_ble_eq_true rfl | omega | (dsimp only;omega) | (simp <;> omega)) (by first | exact Nat.le_of_ble_eq_true rfl | omega | (dsimp only;omega) | (simp <;> omega))) rfl rfl pre0 rfl rfl ?_
   | refine hq_ 35 (hop_ia_arf al_85 rfl rfl (by first | exact Nat.le_of_ble_eq_true rfl | omega | (dsimp only;omega) | (simp <;> omega)) (by first | exact Nat.le_of_ble_eq_true rfl | omega | (dsimp only;omega) | (simp <;> omega)) (by first | exact Nat.le_of_ble_eq_true rfl | omega | (dsimp only;omega) | (simp <;> omega))) rfl rfl pre0 rfl rfl ?_
   first
   | refine hq_ 36 (HOp.val (v':=intV ((ks.getD i (0,0)).2:Int)) (hol_load ty_3 rfl (by first | exact Nat.le_of_ble_eq_true rfl | omega | (dsimp only;omega) | (simp <;> omega)) (by first | exact Nat.le_of_ble_eq_true rfl | omega | (dsimp only;omega) | (simp <;> omega)) (fun h=>(by first | rfl | cases h))) (rfl)) rfl rfl (pre1 rfl) rfl rfl ?_
   | refine hq_ 36 (HOp.val (v':=intV ((ks.getD i (0,0)).2:Int)) (hop_load_fp ty_3 rfl (by first | exact Nat.le_of_ble_eq_true rfl | omega | (dsimp only;omega) | (simp <;> omega)) (fun h=>(by first | rfl | cases h))) (rfl)) rfl rfl pre0 rfl rfl ?_
   first
   | refine hq_ 37 (hop_addi rfl rfl rfl (by first | exact Nat.le_of_ble_eq_true rfl | omega | (dsimp only;omega) | (simp <;> omega)) (by first | exact Nat.le_of_ble_eq_true rfl | omega | (dsimp only;omega) | (simp <;> omega))) rfl rfl pre0 rfl rfl ?_
   | refine hq_ 37 (hop_add rfl rfl) rfl rfl pre0 rfl rfl ?_
   first
   | refine hm_s1 (hol_storeW ty_3 rfl rfl rfl rfl) rfl rfl (pre1 rfl) (c':=c2+1) rfl ?_
   | refine hm_s1 (hol_store ty_3 rfl rfl rfl rfl (by first | exact Nat.le_of_ble_eq_true rfl | omega | (dsimp only;omega) | (simp <;> omega)) (by first | exact Nat.le_of_ble_eq_true rfl | omega | (dsimp only;omega) | (simp <;> omega)) (by first | exact Nat.le_of_ble_eq_true rfl | omega | (dsimp only;omega) | (simp <;> omega))) rfl rfl (pre1 rfl) (c':=c2+1) rfl ?_
   refine snl h17<|hw_seq fun Nh18 h18=>srg fun N h19=>?_
   first
   | refine hq_ 38 (hol_load ty_32 rfl (by first | exact Nat.le_of_ble_eq_true rfl | omega | (dsimp only;omega) | (simp <;> omega)) (by first | exact Nat.le_of_ble_eq_true rfl | omega | (dsimp only;omega) | (simp <;> omega)) (fun h=>(by first | rfl | cases h))) rfl rfl (pre1 rfl) rfl rfl ?_
   | refine hq_ 38 (hop_load_fp ty_32 rfl (by first | exact Nat.le_of_ble_eq_true rfl | omega | (dsimp only;omega) | (simp <;> omega)) (fun h=>(by first | rfl | cases h))) rfl rfl pre0 rfl rfl ?_
   first
   | refine hq_ 39 (hop_len_sl (T:=32) rfl (elOf_spec el_32).1 rfl) rfl rfl pre0 rfl rfl ?_
   | refine hq_ 39 (hop_len_os (T:=32) rfl (elOf_spec el_32).1 rfl) rfl rfl pre0 rfl rfl ?_
   | refine hq_ 39 (hop_len_nil (T:=32) rfl (elOf_spec el_32).1 rfl) rfl rfl pre0 rfl rfl ?_
   refine sa<|snl h19<|hw_seq fun Nh20 h20=>hd_start ?_
   refine dm 1 ?_
   refine d0 2 (hop_gtr rfl rfl) ?_
   refine dm 3 ?_
   first
   | refine hd_g 43 2 42 true _ (fun hb=>hol_load ty_32 rfl (by first | exact Nat.le_of_ble_eq_true rfl | (simp at hb;first | omega | (dsimp only;omega) | (simp <;> omega)) | omega | (dsimp only;omega)) (by first | exact Nat.le_of_ble_eq_true rfl | (simp at hb;first | omega | (dsimp only;omega) | (simp <;> omega)) | omega | (dsimp only;omega)) (fun h=>(by first | rfl | cases h))) rfl rfl rfl rfl (pre1 rfl) rfl rfl rfl (k':=4) rfl ?_
   | refine hd_g 43 2 42 true _ (fun hb=>hop_load_fp ty_32 rfl (by first | exact Nat.le_of_ble_eq_true rfl | (simp at hb;first | omega | (dsimp only;omega) | (simp <;> omega)) | omega | (dsimp only;omega)) (fun h=>(by first | rfl | cases h))) rfl rfl rfl rfl pre0 rfl rfl rfl (k':=4) rfl ?_
   refine hd_g 44 2 42 true _ (fun hb=>hop_move rfl) rfl rfl rfl rfl pre0 rfl rfl rfl (k':=5) rfl ?_
   first
   | refine hd_g 45 2 42 true _ (fun hb=>hop_subi rfl rfl rfl (by first | exact Nat.le_of_ble_eq_true rfl | (simp at hb;first | omega | (dsimp only;omega) | (simp <;> omega)) | omega | (dsimp only;omega)) (by first | exact Nat.le_of_ble_eq_true rfl | (simp at hb;first | omega | (dsimp only;omega) | (simp <;> omega)) | omega | (dsimp only;omega))) rfl rfl rfl rfl pre0 rfl rfl rfl (k':=6) rfl ?_
   | refine hd_g 45 2 42 true _ (fun hb=>hop_sub rfl rfl) rfl rfl rfl rfl pre0 rfl rfl rfl (k':=6) rfl ?_
   first
   | refine hd_g 46 2 42 true _ (fun hb=>hop_ia_sl el_32 rfl rfl (by first | exact Nat.le_of_ble_eq_true rfl | (simp at hb;first | omega | (dsimp only;omega) | (simp <;> omega)) | omega | (dsimp only;omega)) (by first | exact Nat.le_of_ble_eq_true rfl | (simp at hb;first | omega | (dsimp only;omega) | (simp <;> omega)) | omega | (dsimp only;omega)) (by first | exact Nat.le_of_ble_eq_true rfl | (simp at hb;first | omega | (dsimp only;omega) | (simp <;> omega)) | omega | (dsimp only;omega))) rfl rfl rfl rfl pre0 rfl rfl rfl (k':=7) rfl ?_
   | refine hd_g 46 2 42 true _ (fun hb=>hol_ia_os el_32 rfl rfl (by first | exact Nat.le_of_ble_eq_true rfl | (simp at hb;first | omega | (dsimp only;omega) | (simp <;> omega)) | omega | (dsimp only;omega)) (by first | exact Nat.le_of_ble_eq_true rfl | (simp at hb;first | omega | (dsimp only;omega) | (simp <;> omega)) | omega | (dsimp only;omega))) rfl rfl rfl rfl (pre1 rfl) rfl rfl rfl (k':=7) rfl ?_
   first
   | refine hd_g 47 2 42 true _ (fun hb=>hop_fa fd_82_0 rfl) rfl rfl rfl rfl pre0 rfl rfl rfl (k':=8) rfl ?_
   | refine hd_g 47 2 42 true _ (fun hb=>hop_fa_fp fd_82_0 rfl (by first | exact Nat.le_of_ble_eq_true rfl | (simp at hb;first | omega | (dsimp only;omega) | (simp <;> omega)) | omega | (dsimp only;omega))) rfl rfl rfl rfl pre0 rfl rfl rfl (k':=8) rfl ?_
   first
   | refine hd_g 48 2 42 true _ (fun hb=>HOp.val (v':=boolV (l1.getD (l1.length - 1) default).old) (hol_load ty_4 rfl (by first | exact Nat.le_of_ble_eq_true rfl | (simp at hb;first | omega | (dsimp only;omega) | (simp <;> omega)) | omega | (dsimp only;omega)) (by first | exact Nat.le_of_ble_eq_true rfl | (simp at hb;first | omega | (dsimp only;omega) | (simp <;> omega)) | omega | (dsimp only;omega)) (fun h=>(by first | rfl | cases h))) ((by show boolV (l1.getD (0+((l1.length:Int) - 1).toNat) default).old=_;rw [show 0+((l1.length:Int) - 1).toNat=l1.length - 1 by omega]))) rfl rfl rfl rfl (pre1 rfl) rfl rfl rfl (k':=9) rfl ?_
   | refine hd_g 48 2 42 true _ (fun hb=>HOp.val (v':=boolV (l1.getD (l1.length - 1) default).old) (hop_load_fp ty_4 rfl (by first | exact Nat.le_of_ble_eq_true rfl | (simp at hb;first | omega | (dsimp only;omega) | (simp <;> omega)) | omega | (dsimp only;omega)) (fun h=>(by first | rfl | cases h))) ((by show boolV (l1.getD (0+((l1.length:Int) - 1).toNat) default).old=_;rw [show 0+((l1.length:Int) - 1).toNat=l1.length - 1 by omega]))) rfl rfl rfl rfl pre0 rfl rfl rfl (k':=9) rfl ?_
   first
   | refine hd_p 49 (hstep_and _ _ rfl rfl rfl) rfl rfl rfl (k':=10) rfl ?_
   | refine hd_p 49 (hstep_or _ _ rfl rfl rfl) rfl rfl rfl (k':=10) rfl ?_
   | refine hd_p 49 (hstep_pick _ _ _ _ rfl rfl rfl (fun _=>.refl _) (fun _=>.refl _)) rfl rfl rfl (k':=10) rfl ?_
   refine dm 11 ?_
   first
   | refine hd_g 51 10 50 true _ (fun hb=>hol_load ty_32 rfl (by first | exact Nat.le_of_ble_eq_true rfl | (simp at hb;first | omega | (dsimp only;omega) | (simp <;> omega)) | omega | (dsimp only;omega)) (by first | exact Nat.le_of_ble_eq_true rfl | (simp at hb;first | omega | (dsimp only;omega) | (simp <;> omega)) | omega | (dsimp only;omega)) (fun h=>(by first | rfl | cases h))) rfl rfl rfl rfl (pre1 rfl) rfl rfl rfl (k':=12) rfl ?_
   | refine hd_g 51 10 50 true _ (fun hb=>hop_load_fp ty_32 rfl (by first | exact Nat.le_of_ble_eq_true rfl | (simp at hb;first | omega | (dsimp only;omega) | (simp <;> omega)) | omega | (dsimp only;omega)) (fun h=>(by first | rfl | cases h))) rfl rfl rfl rfl pre0 rfl rfl rfl (k':=12) rfl ?_
   refine hd_g 52 10 50 true _ (fun hb=>hop_move rfl) rfl rfl rfl rfl pre0 rfl rfl rfl (k':=13) rfl ?_
   first
   | refine hd_g 53 10 50 true _ (fun hb=>hop_subi rfl rfl rfl (by first | exact Nat.le_of_ble_eq_true rfl | (simp at hb;first | omega | (dsimp only;omega) | (simp <;> omega)) | omega | (dsimp only;omega)) (by first | exact Nat.le_of_ble_eq_true rfl | (simp at hb;first | omega | (dsimp only;omega) | (simp <;> omega)) | omega | (dsimp only;omega))) rfl rfl rfl rfl pre0 rfl rfl rfl (k':=14) rfl ?_
   | refine hd_g 53 10 50 true _ (fun hb=>hop_sub rfl rfl) rfl rfl rfl rfl pre0 rfl rfl rfl (k':=14) rfl ?_
   first
   | refine hd_g 54 10 50 true _ (fun hb=>hop_ia_sl el_32 rfl rfl (by first | exact Nat.le_of_ble_eq_true rfl | (simp at hb;first | omega | (dsimp only;omega) | (simp <;> omega)) | omega | (dsimp only;omega)) (by first | exact Nat.le_of_ble_eq_true rfl | (simp at hb;first | omega | (dsimp only;omega) | (simp <;> omega)) | omega | (dsimp only;omega)) (by first | exact Nat.le_of_ble_eq_true rfl | (simp at hb;first | omega | (dsimp only;omega) | (simp <;> omega)) | omega | (dsimp only;omega))) rfl rfl rfl rfl pre0 rfl rfl rfl (k':=15) rfl ?_
   | refine hd_g 54 10 50 true _ (fun hb=>hol_ia_os el_32 rfl rfl (by first | exact Nat.le_of_ble_eq_true rfl | (simp at hb;first | omega | (dsimp only;omega) | (simp <;> omega)) | omega | (dsimp only;omega)) (by first | exact Nat.le_of_ble_eq_true rfl | (simp at hb;first | omega | (dsimp only;omega) | (simp <;> omega)) | omega | (dsimp only;omega))) rfl rfl rfl rfl (pre1 rfl) rfl rfl rfl (k':=15) rfl ?_
   first
   | refine hd_g 55 10 50 true _ (fun hb=>hop_fa fd_82_2 rfl) rfl rfl rfl rfl pre0 rfl rfl rfl (k':=16) rfl ?_
   | refine hd_g 55 10 50 true _ (fun hb=>hop_fa_fp fd_82_2 rfl (by first | exact Nat.le_of_ble_eq_true rfl | (simp at hb;first | omega | (dsimp only;omega) | (simp <;> omega)) | omega | (dsimp only;omega))) rfl rfl rfl rfl pre0 rfl rfl rfl (k':=16) rfl ?_
   first
   | refine hd_g 56 10 50 true _ (fun hb=>HOp.val (v':=intV ((l1.getD (l1.length - 1) default).t:Int)) (hol_load ty_3 rfl (by first | exact Nat.le_of_ble_eq_true rfl | (simp at hb;first | omega | (dsimp only;omega) | (simp <;> omega)) | omega | (dsimp only;omega)) (by first | exact Nat.le_of_ble_eq_true rfl | (simp at hb;first | omega | (dsimp only;omega) | (simp <;> omega)) | omega | (dsimp only;omega)) (fun h=>(by first | rfl | cases h))) ((by show intV ((l1.getD (0+((l1.length:Int) - 1).toNat) default).t:Int)=_;rw [show 0+((l1.length:Int) - 1).toNat=l1.length - 1 by omega]))) rfl rfl rfl rfl (pre1 rfl) rfl rfl rfl (k':=17) rfl ?_
   | refine hd_g 56 10 50 true _ (fun hb=>HOp.val (v':=intV ((l1.getD (l1.length - 1) default).t:Int)) (hop_load_fp ty_3 rfl (by first | exact Nat.le_of_ble_eq_true rfl | (simp at hb;first | omega | (dsimp only;omega) | (simp <;> omega)) | omega | (dsimp only;omega)) (fun h=>(by first | rfl | cases h))) ((by show intV ((l1.getD (0+((l1.length:Int) - 1).toNat) default).t:Int)=_;rw [show 0+((l1.length:Int) - 1).toNat=l1.length - 1 by omega]))) rfl rfl rfl rfl pre0 rfl rfl rfl (k':=17) rfl ?_
   first
   | refine hd_g 57 10 50 true _ (fun hb=>hop_ia_arp al_85 rfl rfl (by first | exact Nat.le_of_ble_eq_true rfl | (simp at hb;first | omega | (dsimp only;omega) | (simp <;> omega)) | omega | (dsimp only;omega)) (by first | exact Nat.le_of_ble_eq_true rfl | (simp at hb;first | omega | (dsimp only;omega) | (simp <;> omega)) | omega | (dsimp only;omega))) rfl rfl rfl rfl pre0 rfl rfl rfl (k':=18) rfl ?_
   | refine hd_g 57 10 50 true _ (fun hb=>hop_ia_arf al_85 rfl rfl (by first | exact Nat.le_of_ble_eq_true rfl | (simp at hb;first | omega | (dsimp only;omega) | (simp <;> omega)) | omega | (dsimp only;omega)) (by first | exact Nat.le_of_ble_eq_true rfl | (simp at hb;first | omega | (dsimp only;omega) | (simp <;> omega)) | omega | (dsimp only;omega)) (by first | exact Nat.le_of_ble_eq_true rfl | (simp at hb;first | omega | (dsimp only;omega) | (simp <;> omega)) | omega | (dsimp only;omega))) rfl rfl rfl rfl pre0 rfl rfl rfl (k':=18) rfl ?_
   first
   | refine hd_g 58 10 50 true _ (fun hb=>HOp.val (v':=intV ((ks.getD i (0,0)).1:Int)) (hol_load ty_3 rfl (by first | exact Nat.le_of_ble_eq_true rfl | (simp at hb;first | omega | (dsimp only;omega) | (simp <;> omega)) | omega | (dsimp only;omega)) (by first | exact Nat.le_of_ble_eq_true rfl | (simp at hb;first | omega | (dsimp only;omega) | (simp <;> omega)) | omega | (dsimp only;omega)) (fun h=>(by first | rfl | cases h))) (rfl)) rfl rfl rfl rfl (pre1 rfl) rfl rfl rfl (k':=19) rfl ?_
   | refine hd_g 58 10 50 true _ (fun hb=>HOp.val (v':=intV ((ks.getD i (0,0)).1:Int)) (hop_load_fp ty_3 rfl (by first | exact Nat.le_of_ble_eq_true rfl | (simp at hb;first | omega | (dsimp only;omega) | (simp <;> omega)) | omega | (dsimp only;omega)) (fun h=>(by first | rfl | cases h))) (rfl)) rfl rfl rfl rfl pre0 rfl rfl rfl (k':=19) rfl ?_
   refine hd_g 59 10 50 true _ (fun hb=>hop_eql rfl rfl) rfl rfl rfl rfl pre0 rfl rfl rfl (k':=20) rfl ?_
   first
   | refine hd_p 60 (hstep_and _ _ rfl rfl rfl) rfl rfl rfl (k':=21) rfl ?_
   | refine hd_p 60 (hstep_or _ _ rfl rfl rfl) rfl rfl rfl (k':=21) rfl ?_
   | refine hd_p 60 (hstep_pick _ _ _ _ rfl rfl rfl (fun _=>.refl _) (fun _=>.refl _)) rfl rfl rfl (k':=21) rfl ?_
   refine hd_nilU kr kr (by rfl) (by simp only [dropUn,slots];exact rfl) (c':=c2+22) rfl ?_
   refine h20 _ ?_
   refine wc (fun hc2=>?_) (fun hc2=>?_)
   ·have hr2:=hc2;(try simp only [hcs,Int.reduceToNat] at hc2)
    have hgl:0 < l1.length∧(l1.getD (l1.length - 1) default).old=true∧(l1.getD (l1.length - 1) default).t=(ks.getD i (0,0)).1:=⟨by omega,hc2.1.2,by omega⟩
    refine srg fun N h21=>?_
    first
    | refine hq_ 61 (hol_load ty_32 rfl (by first | exact Nat.le_of_ble_eq_true rfl | omega | (dsimp only;omega) | (simp <;> omega)) (by first | exact Nat.le_of_ble_eq_true rfl | omega | (dsimp only;omega) | (simp <;> omega)) (fun h=>(by first | rfl | cases h))) rfl rfl (pre1 rfl) rfl rfl ?_
    | refine hq_ 61 (hop_load_fp ty_32 rfl (by first | exact Nat.le_of_ble_eq_true rfl | omega | (dsimp only;omega) | (simp <;> omega)) (fun h=>(by first | rfl | cases h))) rfl rfl pre0 rfl rfl ?_
    refine sm ?_
    first
    | refine hq_ 63 (hop_subi rfl rfl rfl (by first | exact Nat.le_of_ble_eq_true rfl | omega | (dsimp only;omega) | (simp <;> omega)) (by first | exact Nat.le_of_ble_eq_true rfl | omega | (dsimp only;omega) | (simp <;> omega))) rfl rfl pre0 rfl rfl ?_
    | refine hq_ 63 (hop_sub rfl rfl) rfl rfl pre0 rfl rfl ?_
    first
    | refine hq_ 64 (hop_ia_sl el_32 rfl rfl (by first | exact Nat.le_of_ble_eq_true rfl | omega | (dsimp only;omega) | (simp <;> omega)) (by first | exact Nat.le_of_ble_eq_true rfl | omega | (dsimp only;omega) | (simp <;> omega)) (by first | exact Nat.le_of_ble_eq_true rfl | omega | (dsimp only;omega) | (simp <;> omega))) rfl rfl pre0 rfl rfl ?_
    | refine hq_ 64 (hol_ia_os el_32 rfl rfl (by first | exact Nat.le_of_ble_eq_true rfl | omega | (dsimp only;omega) | (simp <;> omega)) (by first | exact Nat.le_of_ble_eq_true rfl | omega | (dsimp only;omega) | (simp <;> omega))) rfl rfl (pre1 rfl) rfl rfl ?_
    first
    | refine hq_ 65 (hop_fa fd_82_2 rfl) rfl rfl pre0 rfl rfl ?_
    | refine hq_ 65 (hop_fa_fp fd_82_2 rfl (by first | exact Nat.le_of_ble_eq_true rfl | omega | (dsimp only;omega) | (simp <;> omega))) rfl rfl pre0 rfl rfl ?_
    first
    | refine hq_ 66 (HOp.val (v':=intV ((ks.getD i (0,0)).1:Int)) (hol_load ty_3 rfl (by first | exact Nat.le_of_ble_eq_true rfl | omega | (dsimp only;omega) | (simp <;> omega)) (by first | exact Nat.le_of_ble_eq_true rfl | omega | (dsimp only;omega) | (simp <;> omega)) (fun h=>(by first | rfl | cases h))) ((by show intV ((l1.getD (0+((l1.length:Int) - 1).toNat) default).t:Int)=_;rw [show 0+((l1.length:Int) - 1).toNat=l1.length - 1 by omega,hgl.2.2]))) rfl rfl (pre1 rfl) rfl rfl ?_
    | refine hq_ 66 (HOp.val (v':=intV ((ks.getD i (0,0)).1:Int)) (hop_load_fp ty_3 rfl (by first | exact Nat.le_of_ble_eq_true rfl | omega | (dsimp only;omega) | (simp <;> omega)) (fun h=>(by first | rfl | cases h))) ((by show intV ((l1.getD (0+((l1.length:Int) - 1).toNat) default).t:Int)=_;rw [show 0+((l1.length:Int) - 1).toNat=l1.length - 1 by omega,hgl.2.2]))) rfl rfl pre0 rfl rfl ?_
    first
    | refine hq_ 67 (HOp.val (v':=intV (((ks.getD i (0,0)).1+1:Nat):Int)) (hop_addi rfl rfl rfl (by first | exact Nat.le_of_ble_eq_true rfl | omega | (dsimp only;omega) | (simp <;> omega)) (by first | exact Nat.le_of_ble_eq_true rfl | omega | (dsimp only;omega) | (simp <;> omega))) (rfl)) rfl rfl pre0 rfl rfl ?_
    | refine hq_ 67 (HOp.val (v':=intV (((ks.getD i (0,0)).1+1:Nat):Int)) (hop_add rfl rfl) (rfl)) rfl rfl pre0 rfl rfl ?_
    first
    | refine hq_ 68 (hop_ia_sl el_32 rfl rfl (by first | exact Nat.le_of_ble_eq_true rfl | omega | (dsimp only;omega) | (simp <;> omega)) (by first | exact Nat.le_of_ble_eq_true rfl | omega | (dsimp only;omega) | (simp <;> omega)) (by first | exact Nat.le_of_ble_eq_true rfl | omega | (dsimp only;omega) | (simp <;> omega))) rfl rfl pre0 rfl rfl ?_
    | refine hq_ 68 (hol_ia_os el_32 rfl rfl (by first | exact Nat.le_of_ble_eq_true rfl | omega | (dsimp only;omega) | (simp <;> omega)) (by first | exact Nat.le_of_ble_eq_true rfl | omega | (dsimp only;omega) | (simp <;> omega))) rfl rfl (pre1 rfl) rfl rfl ?_
    first
    | refine hq_ 69 (hop_fa fd_82_2 rfl) rfl rfl pre0 rfl rfl ?_
    | refine hq_ 69 (hop_fa_fp fd_82_2 rfl (by first | exact Nat.le_of_ble_eq_true rfl | omega | (dsimp only;omega) | (simp <;> omega))) rfl rfl pre0 rfl rfl ?_
    first
    | refine hm_s1 (hol_storeW ty_3 rfl rfl rfl rfl) rfl rfl (pre1 rfl) (c':=c2+23) rfl ?_
    | refine hm_s1 (hol_store ty_3 rfl rfl rfl rfl (by first | exact Nat.le_of_ble_eq_true rfl | omega | (dsimp only;omega) | (simp <;> omega)) (by first | exact Nat.le_of_ble_eq_true rfl | omega | (dsimp only;omega) | (simp <;> omega)) (by first | exact Nat.le_of_ble_eq_true rfl | omega | (dsimp only;omega) | (simp <;> omega))) rfl rfl (pre1 rfl) (c':=c2+23) rfl ?_
    refine snl h21 ?_
    refine hw_exit ?_
    refine hq_then_exit<|hq_block_here<|h14 _<|hw_region ?_
    first
    | refine hq_ 79 (hop_addi rfl rfl rfl (by first | exact Nat.le_of_ble_eq_true rfl | omega | (dsimp only;omega) | (simp <;> omega)) (by first | exact Nat.le_of_ble_eq_true rfl | omega | (dsimp only;omega) | (simp <;> omega))) rfl rfl pre0 rfl rfl ?_
    | refine hq_ 79 (hop_add rfl rfl) rfl rfl pre0 rfl rfl ?_
    refine sm<|hseq_nil ?_
    exact hL11 ((i+1,g3)) _ _ (by (try dsimp only);omega) (by (try dsimp only);omega) (hsub_of rfl (Nat.le_refl _) tsa (HpSub.cons rfl (OSub.of fun _ _ _ _=>by dsimp only;rw [hnx];exact sb_intV om) (HpSub.cons rfl (by dsimp only;rw [hnx,glue_len_yes hgl];exact .refl _) (hsr rfl (HpSub.cons rfl (by dsimp only;rw [hnx];exact ⟨rfl,(glue_len_yes hgl).symm,rfl,rfl,Nat.le_refl _,fun p q hp hq=>by show Sb _ (prtsF (glueV l1 _) p q);rw [←glue_put (z:=fun j=>(intV (((ks.getD i (0,0)).1+1:Nat):Int)).cell j) hgl (q:=0+((l1.length:Int) - 1).toNat) om rfl p q hp hq];exact .refl _,fun h=>absurd h (Nat.not_lt_zero _)⟩) HpSub.nil)))))
   have hr2:=hc2;(try simp only [hcs,Int.reduceToNat] at hc2)
   have hgl:¬ (0 < l1.length∧(l1.getD (l1.length - 1) default).old=true∧(l1.getD (l1.length - 1) default).t=(ks.getD i (0,0)).1):=fun h9=>(by have h8:=hr2;rw [decide_eq_true om,h9.2.1,h9.2.2] at h8;simp at h8)
   refine hw_skip<|h18 _<|hd_start ?_
   first
   | refine hd_q 70 (hol_load ty_32 rfl (by first | exact Nat.le_of_ble_eq_true rfl | omega | (dsimp only;omega) | (simp <;> omega)) (by first | exact Nat.le_of_ble_eq_true rfl | omega | (dsimp only;omega) | (simp <;> omega)) (fun h=>(by first | rfl | cases h))) rfl rfl (pre1 rfl) rfl rfl (k':=1) rfl ?_
   | refine hd_q 70 (hop_load_fp ty_32 rfl (by first | exact Nat.le_of_ble_eq_true rfl | omega | (dsimp only;omega) | (simp <;> omega)) (fun h=>(by first | rfl | cases h))) rfl rfl pre0 rfl rfl (k':=1) rfl ?_
   first
   | refine hd_q 71 (hop_ia_arp al_85 rfl rfl (by first | exact Nat.le_of_ble_eq_true rfl | omega | (dsimp only;omega) | (simp <;> omega)) (by first | exact Nat.le_of_ble_eq_true rfl | omega | (dsimp only;omega) | (simp <;> omega))) rfl rfl pre0 rfl rfl (k':=2) rfl ?_
   | refine hd_q 71 (hop_ia_arf al_85 rfl rfl (by first | exact Nat.le_of_ble_eq_true rfl | omega | (dsimp only;omega) | (simp <;> omega)) (by first | exact Nat.le_of_ble_eq_true rfl | omega | (dsimp only;omega) | (simp <;> omega)) (by first | exact Nat.le_of_ble_eq_true rfl | omega | (dsimp only;omega) | (simp <;> omega))) rfl rfl pre0 rfl rfl (k':=2) rfl ?_
   first
   | refine hd_q 72 (HOp.val (v':=intV ((ks.getD i (0,0)).1:Int)) (hol_load ty_3 rfl (by first | exact Nat.le_of_ble_eq_true rfl | omega | (dsimp only;omega) | (simp <;> omega)) (by first | exact Nat.le_of_ble_eq_true rfl | omega | (dsimp only;omega) | (simp <;> omega)) (fun h=>(by first | rfl | cases h))) (rfl)) rfl rfl (pre1 rfl) rfl rfl (k':=3) rfl ?_
   | refine hd_q 72 (HOp.val (v':=intV ((ks.getD i (0,0)).1:Int)) (hop_load_fp ty_3 rfl (by first | exact Nat.le_of_ble_eq_true rfl | omega | (dsimp only;omega) | (simp <;> omega)) (fun h=>(by first | rfl | cases h))) (rfl)) rfl rfl pre0 rfl rfl (k':=3) rfl ?_
   first
   | refine hd_q 73 (hop_ia_arp al_85 rfl rfl (by first | exact Nat.le_of_ble_eq_true rfl | omega | (dsimp only;omega) | (simp <;> omega)) (by first | exact Nat.le_of_ble_eq_true rfl | omega | (dsimp only;omega) | (simp <;> omega))) rfl rfl pre0 rfl rfl (k':=4) rfl ?_
   | refine hd_q 73 (hop_ia_arf al_85 rfl rfl (by first | exact Nat.le_of_ble_eq_true rfl | omega | (dsimp only;omega) | (simp <;> omega)) (by first | exact Nat.le_of_ble_eq_true rfl | omega | (dsimp only;omega) | (simp <;> omega)) (by first | exact Nat.le_of_ble_eq_true rfl | omega | (dsimp only;omega) | (simp <;> omega))) rfl rfl pre0 rfl rfl (k':=4) rfl ?_
   first
   | refine hd_q 74 (HOp.val (v':=intV ((ks.getD i (0,0)).1:Int)) (hol_load ty_3 rfl (by first | exact Nat.le_of_ble_eq_true rfl | omega | (dsimp only;omega) | (simp <;> omega)) (by first | exact Nat.le_of_ble_eq_true rfl | omega | (dsimp only;omega) | (simp <;> omega)) (fun h=>(by first | rfl | cases h))) (rfl)) rfl rfl (pre1 rfl) rfl rfl (k':=5) rfl ?_
   | refine hd_q 74 (HOp.val (v':=intV ((ks.getD i (0,0)).1:Int)) (hop_load_fp ty_3 rfl (by first | exact Nat.le_of_ble_eq_true rfl | omega | (dsimp only;omega) | (simp <;> omega)) (fun h=>(by first | rfl | cases h))) (rfl)) rfl rfl pre0 rfl rfl (k':=5) rfl ?_
   first
   | refine hd_q 75 (HOp.val (v':=intV (((ks.getD i (0,0)).1+1:Nat):Int)) (hop_addi rfl rfl rfl (by first | exact Nat.le_of_ble_eq_true rfl | omega | (dsimp only;omega) | (simp <;> omega)) (by first | exact Nat.le_of_ble_eq_true rfl | omega | (dsimp only;omega) | (simp <;> omega))) (rfl)) rfl rfl pre0 rfl rfl (k':=6) rfl ?_
   | refine hd_q 75 (HOp.val (v':=intV (((ks.getD i (0,0)).1+1:Nat):Int)) (hop_add rfl rfl) (rfl)) rfl rfl pre0 rfl rfl (k':=6) rfl ?_
   refine d0 7 (hop_call0 (xs:=[_,_]) (keep_h (ks.getD i (0,0)).1 ((ks.getD i (0,0)).1+1)) ⟨rfl,⟨rfl,trivial⟩⟩ ⟨fe,⟨fe,trivial⟩⟩) ?_
   refine hd_1 77 (hop_buildSlice (id:=77) (hs:=[_]) ei_32 omx rfl omx ⟨rfl,rfl,rfl,rfl,trivial⟩) rfl rfl pre0 rfl rfl (k':=8) rfl ?_
   first
   | refine hd_1 78 (hol_append ei_32 (by first | exact Nat.le_of_ble_eq_true rfl | omega | (dsimp only;omega) | (simp <;> omega)) rfl (by first | exact Nat.le_of_ble_eq_true rfl | omega | (dsimp only;omega) | (simp <;> omega)) (by first | exact Nat.le_of_ble_eq_true rfl | omega | (dsimp only;omega) | (simp <;> omega)) (srl_os0 rfl (by first | exact Nat.le_of_ble_eq_true rfl | omega | (dsimp only;omega) | (simp <;> omega))) (by first | exact Nat.le_of_ble_eq_true rfl | omega | (dsimp only;omega) | (simp <;> omega)) rfl) rfl rfl (preC rfl (pre1 rfl)) rfl rfl (k':=9) rfl ?_
   | refine hd_1 78 (hol_append ei_32 (by first | exact Nat.le_of_ble_eq_true rfl | omega | (dsimp only;omega) | (simp <;> omega)) rfl (by first | exact Nat.le_of_ble_eq_true rfl | omega | (dsimp only;omega) | (simp <;> omega)) (by first | exact Nat.le_of_ble_eq_true rfl | omega | (dsimp only;omega) | (simp <;> omega)) (srl_os rfl (by first | exact Nat.le_of_ble_eq_true rfl | omega | (dsimp only;omega) | (simp <;> omega))) (by first | exact Nat.le_of_ble_eq_true rfl | omega | (dsimp only;omega) | (simp <;> omega)) rfl) rfl rfl (preC rfl (pre1 rfl)) rfl rfl (k':=9) rfl ?_
   | refine hd_1 78 (hol_append ei_32 (by first | exact Nat.le_of_ble_eq_true rfl | omega | (dsimp only;omega) | (simp <;> omega)) rfl (by first | exact Nat.le_of_ble_eq_true rfl | omega | (dsimp only;omega) | (simp <;> omega)) (by first | exact Nat.le_of_ble_eq_true rfl | omega | (dsimp only;omega) | (simp <;> omega)) (src_sl rfl) (by first | exact Nat.le_of_ble_eq_true rfl | omega | (dsimp only;omega) | (simp <;> omega)) rfl) rfl rfl (preC rfl pre0) rfl rfl (k':=9) rfl ?_
   | refine hd_1 78 (hol_append ei_32 (by first | exact Nat.le_of_ble_eq_true rfl | omega | (dsimp only;omega) | (simp <;> omega)) rfl (by first | exact Nat.le_of_ble_eq_true rfl | omega | (dsimp only;omega) | (simp <;> omega)) (by first | exact Nat.le_of_ble_eq_true rfl | omega | (dsimp only;omega) | (simp <;> omega)) (src_nil 4 (fun _ _=>default) rfl) (by first | exact Nat.le_of_ble_eq_true rfl | omega | (dsimp only;omega) | (simp <;> omega)) rfl) rfl rfl (preC rfl pre0) rfl rfl (k':=9) rfl ?_
   first
   | refine hd_s1 (hol_storeW ty_32 rfl rfl rfl rfl) rfl rfl (pre1 rfl) (k':=10) rfl ?_
   | refine hd_s1 (hol_store ty_32 rfl rfl rfl rfl (by first | exact Nat.le_of_ble_eq_true rfl | omega | (dsimp only;omega) | (simp <;> omega)) (by first | exact Nat.le_of_ble_eq_true rfl | omega | (dsimp only;omega) | (simp <;> omega)) (by first | exact Nat.le_of_ble_eq_true rfl | omega | (dsimp only;omega) | (simp <;> omega))) rfl rfl (pre1 rfl) (k':=10) rfl ?_
   refine hd_nil kr kr (c':=c2+32) rfl ?_
   refine hq_block<|h14 _<|hw_region ?_
   first
   | refine hq_ 79 (hop_addi rfl rfl rfl (by first | exact Nat.le_of_ble_eq_true rfl | omega | (dsimp only;omega) | (simp <;> omega)) (by first | exact Nat.le_of_ble_eq_true rfl | omega | (dsimp only;omega) | (simp <;> omega))) rfl rfl pre0 rfl rfl ?_
   | refine hq_ 79 (hop_add rfl rfl) rfl rfl pre0 rfl rfl ?_
   refine sm<|hseq_nil ?_
   exact hL11 ((i+1,c2+22+8)) _ _ (by (try dsimp only);omega) (by (try dsimp only);omega) (hsub_of rfl (Nat.le_refl _) tsa (HpSub.cons rfl (OSub.of fun _ _ _ _=>by dsimp only;rw [hnx];exact sb_intV om) (HpSub.cons rfl (by dsimp only;rw [hnx,glue_no hgl,List.length_append];exact OSub.of fun _ _ _ _=>.refl _) (hsr rfl (HpSub.cons rfl (by dsimp only;rw [hnx,glue_no hgl];exact ⟨rfl,by simp,rfl,rfl,Nat.le_refl _,fun p q hp hq=>prts_snoc (fun j _=>.refl _) p q hp hq,fun h=>absurd h (Nat.not_lt_zero _)⟩) HpSub.nil)))))
  have hr1:=hc1;(try simp only [hcs,Int.reduceToNat] at hc1)
  obtain rfl:i=ks.length:=om;have hpli:=hpl ks.length;have hpai:=hpa ks.length (Nat.le_refl _);rw [List.take_length] at hpli hpai ⊢
  refine hw_exit ?_
  refine hq_then_exit<|hq_then_exit<|hq_block_here<|h9 _<|srg fun N h22=>sm ?_
  first
  | refine hq_ 81 (hol_load ty_22 rfl (by first | exact Nat.le_of_ble_eq_true rfl | omega | (dsimp only;omega) | (simp <;> omega)) (by first | exact Nat.le_of_ble_eq_true rfl | omega | (dsimp only;omega) | (simp <;> omega)) (fun h=>(by first | rfl | cases h))) rfl rfl (pre1 rfl) rfl rfl ?_
  | refine hq_ 81 (hop_load_fp ty_22 rfl (by first | exact Nat.le_of_ble_eq_true rfl | omega | (dsimp only;omega) | (simp <;> omega)) (fun h=>(by first | rfl | cases h))) rfl rfl pre0 rfl rfl ?_
  first
  | refine hq_ 82 (hop_len_sl (T:=22) rfl (elOf_spec el_22).1 rfl) rfl rfl pre0 rfl rfl ?_
  | refine hq_ 82 (hop_len_os (T:=22) rfl (elOf_spec el_22).1 rfl) rfl rfl pre0 rfl rfl ?_
  | refine hq_ 82 (hop_len_nil (T:=22) rfl (elOf_spec el_22).1 rfl) rfl rfl pre0 rfl rfl ?_
  refine hf_callVR 83 (xs:=[_]) (cs:=[_,_,_]) (pre:=[(9013,_),(9012,_),(9011,_),(9005,_)]) (fresh_h _ (c1+2) (c1+1) 0 g b om (partsI b ks).1 om (partsI b ks).2 b.length (by rw [hpai];split;(omega);(have:=(hat (ks.length - 1) om).2;omega)) om) rfl rfl (fun i hi=>by first | rfl | (rcases i with _ | _ | _ | i <;> first | rfl | (exact absurd hi om) | (simp at hi))) ⟨rfl,trivial⟩ (preC rfl (preC rfl (preC rfl (preC rfl pre0)))) rfl rfl (fun g4 c3 hx3=>?_)
  (try dsimp only)
  refine snl h22<|srg fun N h23=>?_
  first
  | refine hq_ 84 (hol_load ty_32 rfl (by first | exact Nat.le_of_ble_eq_true rfl | omega | (dsimp only;omega) | (simp <;> omega)) (by first | exact Nat.le_of_ble_eq_true rfl | omega | (dsimp only;omega) | (simp <;> omega)) (fun h=>(by first | rfl | cases h))) rfl rfl (pre1 rfl) rfl rfl ?_
  | refine hq_ 84 (hop_load_fp ty_32 rfl (by first | exact Nat.le_of_ble_eq_true rfl | omega | (dsimp only;omega) | (simp <;> omega)) (fun h=>(by first | rfl | cases h))) rfl rfl pre0 rfl rfl ?_
  refine sa<|snl h23<|hw_ret ?_
  refine hq_ret1 rfl (rval_tmp rfl) [(9005,_)] rfl (preC rfl pre0) ?_
  exact fz_prts (.head _) rfl rfl
 have hr0:=hc0;(try simp only [hcs,Int.reduceToNat] at hc0)
 exfalso;simp at hr0
def pre {α:Type} [DecidableEq α]:List α→List α→Nat
 | x::l,y::m=>if x=y then pre l m+1 else 0
 | _,_=>0
theorem pre_drop {α:Type} [DecidableEq α] (l m:List α) (k:Nat) (h1:k < l.length) (h2:k < m.length):pre (l.drop k) (m.drop k)=if l[k]=m[k] then pre (l.drop (k+1)) (m.drop (k+1))+1 else 0:=by
 rw [List.drop_eq_getElem_cons h1,List.drop_eq_getElem_cons h2,pre]
theorem pre_end {α:Type} [DecidableEq α] (l m:List α) (k:Nat) (h:l.length≤k∨m.length≤k):pre (l.drop k) (m.drop k)=0:=by
 rcases h with h | h
 ·rw [List.drop_eq_nil_of_le h];cases m.drop k <;> rfl
 ·rw [List.drop_eq_nil_of_le h];cases l.drop k <;> rfl
theorem pre_le {α:Type} [DecidableEq α]:∀ (l m:List α),pre l m≤l.length∧pre l m≤m.length
  | [],_=>by simp [pre]
  | _::_,[]=>by simp [pre]
  | x :: l, y :: m => by
    have:=pre_le l m
    simp only [pre,List.length_cons]
    split <;> omega
def back {α:Type} [DecidableEq α] (l m:List α) (f:Nat):Nat→Nat→Nat×Nat
 | t+1,e+1=>if f < t+1∧f < e+1∧l[t]?=m[e]? then back l m f t e else (t+1,e+1)
 | t,e=>(t,e)
theorem back_stop {α:Type} [DecidableEq α] (l m:List α) (f t e:Nat) (h:¬ (f < t∧f < e)):back l m f t e=(t,e):=by
 cases t <;> cases e <;> simp [back]
 omega
theorem back_le {α:Type} [DecidableEq α] (l m:List α) (f:Nat):∀ t e,f≤t→f≤e→f≤(back l m f t e).1∧(back l m f t e).1≤t∧f≤(back l m f t e).2∧(back l m f t e).2≤e
  | t + 1, e + 1, h1, h2 => by
    rw [back]
    split
    · rename_i h
      have:=back_le l m f t e (by omega) (by omega)
      omega
    · simp;omega
  | 0,e,h1,h2=>by simp [back];omega
  | t+1,0,h1,h2=>by simp [back];omega
attribute [local go_sem ↓] run_load_tok run_eql_tok run_neq_tok run_store_step run_slice_tok
attribute [local go_sem] rd_drewN rd_drew aggLoad_ptr aggRes_some aggStore_row rowSz_new World.setRow_alloc_new cutRes_lohi one_int one_bool one_slice
def oneF (a b:List Tok):Nat:=pre a b
def oneT (a b:List Tok):Nat:=(back a b (pre a b) a.length b.length).1
def oneE (a b:List Tok):Nat:=(back a b (pre a b) a.length b.length).2
def OneDiff (a b:List Tok) (w:World) (e:Ending) (w':World):Prop :=
  ∃ A c, e = .returned (.tuple #[.agg #[.int .i64 1, .int .i64 (oneF a b), .int .i64 (oneT a b), .int .i64 0, .int .i64 0, .int .i64 0, .int .i64 0, .int .i64 0, .slice A (oneE a b - oneF a b) c, .slice none 0 0], .bool true]) ∧
    Own w' w.heap.size 71 12 Tok.cells (.slice A (oneE a b - oneF a b) c) ((b.take (oneE a b)).drop (oneF a b))∧Below w.heap.size w w'
set_option maxHeartbeats 1000000 in
set_option maxRecDepth 100000 in
theorem One_differ (A1 A2:Option Addr) (c1 c2 B1 B2:Nat) (a b:List Tok) (w:World) (h1:Sl w B1 12 Tok.cells A1 a) (h2:Sl w B2 12 Tok.cells A2 b) (hB1:B1≤w.heap.size) (hB2:B2≤w.heap.size) (ha:a.length≤1000000) (hb:b.length≤1000000) (hc:b.length≤c2) (hne:¬ a=b) :
  Calls Try.prog 7 #[.slice A1 a.length c1,.slice A2 b.length c2] w (OneDiff a b w):=by
 have hd:decide (a=b)=false:=by simp [hne]
 clear hne
 obtain ⟨Z,hZ⟩:∃ Z:Obj,Z=.cells #[.int .i64 0,.int .i64 0,.int .i64 0,.int .i64 0,.int .i64 0,.int .i64 0,.int .i64 0,.int .i64 0,.slice none 0 0,.slice none 0 0] 26:=⟨_,rfl⟩
 have k1:=h1.alloc hB1 Z
 have k2:=h2.alloc hB2 Z
 subst hZ
 clear h1 h2
 go_enter Try.func7,Try.ntmps7
 go_upto_block 0 with (go_at_call 32;refine (Same_any A1 A2 c1 c2 B1 B2 a b _ k1 k2 (by omega) (by omega)).mono ?_;rintro e w' ⟨rfl,n,rfl⟩)
 go_cut [6] (fun i wx=>∃ n:Nat,i=.int .i64 (pre a b)∧wx=(w.alloc (.cells #[.int .i64 0,.int .i64 0,.int .i64 0,.int .i64 0,.int .i64 0,.int .i64 0,.int .i64 0,.int .i64 0,.slice none 0 0,.slice none 0 0] 26)).drewN n)
 case first =>
  go_wp2_with fail
  go_loopw [6] (fun i wr=>∃ k n:Nat,k≤a.length∧k≤b.length∧i=.int .i64 k∧wr=(w.alloc (.cells #[.int .i64 0,.int .i64 0,.int .i64 0,.int .i64 0,.int .i64 0,.int .i64 0,.int .i64 0,.int .i64 0,.slice none 0 0,.slice none 0 0] 26)).drewN n∧Hid (k+pre (a.drop k) (b.drop k)=pre a b)) (fun i _=>a.length - (intOf i).toNat)
  case atStart=>exact ⟨0,n,by omega,by omega,rfl,rfl,by simp [Hid]⟩
  case round =>
   obtain ⟨k,n,hk1,hk2,rfl,rfl,HE⟩:=hrel
   by_cases hlt:k < a.length∧k < b.length
   ·obtain ⟨hlt1,hlt2⟩:=hlt
    obtain ⟨b1,o1,rfl,_⟩:=k1.addr (by omega) (by omega)
    obtain ⟨b2,o2,rfl,_⟩:=k2.addr (by omega) (by omega)
    have r1:=k1.rd_ hlt1
    have r2:=k2.rd_ hlt2
    have hg:decide ((k:Int) < if b.length < a.length then (b.length:Int) else (a.length:Int))=true:=by simp only [decide_eq_true_eq];split <;> omega
    have hp:=pre_drop a b k hlt1 hlt2
    by_cases he:a[k]=b[k]
    ·have hd:decide (a[k]=b[k])=true:=by simp [he]
     rw [if_pos he] at hp
     have HE':=Lib.hid hp;clear he hp
     go_wp2
     go_quiet (fail)
     go_wp2
     go_roundw
     case rel=>exact ⟨k+1,_,by omega,by omega,by go_num,rfl,by have:=HE.out;rw [HE'.out] at this;unfold Hid;omega⟩
     case measure=>simp [intOf];omega
    ·have hd:decide (a[k]=b[k])=false:=by simp [he]
     rw [if_neg he] at hp
     have HE':=Lib.hid hp;clear he hp
     go_wp2
     go_quiet (fail)
     go_wp2
     all_goals
      go_meet
      case rel=>exact ⟨_,by have:=HE.out;rw [HE'.out] at this;rw [←this];simp,rfl⟩
   ·have hg:decide ((k:Int) < if b.length < a.length then (b.length:Int) else (a.length:Int))=false:=by simp only [decide_eq_false_iff_not];split <;> omega
    have hp:=pre_end a b k (by omega)
    have HE':=Lib.hid hp;clear hp
    go_wp2
    go_quiet (fail)
    go_wp2
    all_goals
     go_meet
     case rel=>exact ⟨_,by have:=HE.out;rw [HE'.out] at this;rw [←this];simp,rfl⟩
 case rest =>
  obtain ⟨n,rfl,rfl⟩:=hcut
  have hpl:=pre_le a b
  obtain ⟨f,hf⟩:∃ f,f=pre a b:=⟨_,rfl⟩
  rw [←hf] at hpl ⊢
  have HF:=Lib.hid hf;clear hf
  go_upto_block 2 with fail
  go_cut [7,8] (fun t e wx=>∃ n:Nat,t=.int .i64 (oneT a b)∧e=.int .i64 (oneE a b)∧wx=(w.alloc (.cells #[.int .i64 0,.int .i64 0,.int .i64 0,.int .i64 0,.int .i64 0,.int .i64 0,.int .i64 0,.int .i64 0,.slice none 0 0,.slice none 0 0] 26)).drewN n)
  case first =>
   go_wp2_with fail
   go_loopw [7,8] (fun t e wr=>∃ i j n:Nat,f≤i∧i≤a.length∧f≤j∧j≤b.length∧t=.int .i64 i∧e=.int .i64 j∧wr=(w.alloc (.cells #[.int .i64 0,.int .i64 0,.int .i64 0,.int .i64 0,.int .i64 0,.int .i64 0,.int .i64 0,.int .i64 0,.slice none 0 0,.slice none 0 0] 26)).drewN n∧Hid (back a b (pre a b) i j=back a b (pre a b) a.length b.length)) (fun t _ _=>(intOf t).toNat)
   case atStart=>exact ⟨_,_,n,hpl.1,Nat.le_refl _,hpl.2,Nat.le_refl _,rfl,rfl,rfl,rfl⟩
   case round =>
    obtain ⟨i,j,n,hi1,hi2,hj1,hj2,rfl,rfl,rfl,HE⟩:=hrel
    by_cases hlt:f < i∧f < j
    ·obtain ⟨hlt1,hlt2⟩:=hlt
     obtain ⟨i,rfl⟩:∃ i',i=i'+1:=⟨i - 1,by omega⟩
     obtain ⟨j,rfl⟩:∃ j',j=j'+1:=⟨j - 1,by omega⟩
     obtain ⟨b1,o1,rfl,_⟩:=k1.addr (by omega) (by omega)
     obtain ⟨b2,o2,rfl,_⟩:=k2.addr (by omega) (by omega)
     have r1:=k1.rd_ (k:=i) (by omega)
     have r2:=k2.rd_ (k:=j) (by omega)
     have hg1:decide ((f:Int) < (i:Int)+1)=true:=by simp;omega
     have hg2:decide ((f:Int) < (j:Int)+1)=true:=by simp;omega
     have HE1:=HE.out
     rw [back] at HE1
     by_cases he:a[i]=b[j]
     ·have hd:decide (a[i]=b[j])=true:=by simp [he]
      rw [if_pos ⟨by rw [←HF.out];omega,by rw [←HF.out];omega,by rw [List.getElem?_eq_getElem (by omega),List.getElem?_eq_getElem (by omega),he]⟩] at HE1
      have HE':=Lib.hid HE1;clear HE1 he
      go_wp2
      go_quiet (fail)
      go_wp2
      go_roundw
      case rel=>exact ⟨i,j,_,by omega,by omega,by omega,by omega,rfl,rfl,rfl,HE'⟩
      case measure=>simp [intOf]
     ·have hd:decide (a[i]=b[j])=false:=by simp [he]
      rw [if_neg (by rw [List.getElem?_eq_getElem (by omega),List.getElem?_eq_getElem (by omega)];intro h;exact he (by simpa using h.2.2))] at HE1
      have HE':=Lib.hid HE1;clear HE1 he
      go_wp2
      go_quiet (fail)
      go_wp2
      all_goals
       go_meet
       case rel=>exact ⟨n+nq,by unfold oneT;rw [←HE'.out];try simp,by unfold oneE;rw [←HE'.out];try simp,by first | rfl | rw [World.drewN_drewN]⟩
    ·have HE1:=HE.out
     rw [back_stop _ _ _ _ _ (by rw [←HF.out];exact hlt)] at HE1
     have HE':=Lib.hid HE1;clear HE1
     by_cases h3:f < i
     ·have hg1:decide (f < i)=true:=by simp;omega
      have hg2:decide (f < j)=false:=by simp;omega
      go_wp2
      go_quiet (fail)
      go_wp2
      all_goals
       go_meet
       case rel=>exact ⟨n+nq,by unfold oneT;rw [←HE'.out],by unfold oneE;rw [←HE'.out],by first | rfl | rw [World.drewN_drewN]⟩
     ·have hg1:decide (f < i)=false:=by simp;omega
      go_wp2
      go_quiet (fail)
      go_wp2
      all_goals
       go_meet
       case rel=>exact ⟨n+nq,by unfold oneT;rw [←HE'.out],by unfold oneE;rw [←HE'.out],by first | rfl | rw [World.drewN_drewN]⟩
  case rest =>
   obtain ⟨n,rfl,rfl,rfl⟩:=hcut
   have hbl:=back_le a b f a.length b.length hpl.1 hpl.2
   have e1:(back a b f a.length b.length).1=oneT a b:=by unfold oneT;rw [HF.out]
   have e2:(back a b f a.length b.length).2=oneE a b:=by unfold oneE;rw [HF.out]
   rw [e1,e2] at hbl
   clear e1 e2
   go_wp2_with fail
   have hlen:((b.take (oneE a b)).drop f).length=oneE a b - f:=by simp;omega
   refine (Clone_tok _ _ _ B2 ((b.take (oneE a b)).drop f) _ hlen ((k2.drewN n).cutA (by omega) (by omega) (by omega)) (by simp;omega) (by omega)).mono ?_
   rintro e w3 ⟨A3,c3,rfl,hown,hb3⟩
   rw [hlen] at hown ⊢
   have hz:w.heap.size < (w.alloc (.cells #[.int .i64 0,.int .i64 0,.int .i64 0,.int .i64 0,.int .i64 0,.int .i64 0,.int .i64 0,.int .i64 0,.slice none 0 0,.slice none 0 0] 26)).heap.size:=by simp
   have hblk:=((Blk.new w 26 #[.int .i64 0,.int .i64 0,.int .i64 0,.int .i64 0,.int .i64 0,.int .i64 0,.int .i64 0,.int .i64 0,.slice none 0 0,.slice none 0 0]).drewN n).below hb3 hz
   have hrow:rowSz w3 w.heap.size=some 10:=rowSz_of hblk
   have HO:=Lib.hid hown;have HB:=Lib.hid hblk;have HB3:=Lib.hid hb3
   clear hown hblk hb3
   go_wp2
   have hblk2:=HB.out.setRow #[.int .i64 1,.int .i64 f,.int .i64 (oneT a b),.int .i64 0,.int .i64 0,.int .i64 0,.int .i64 0,.int .i64 0,.slice A3 (oneE a b - f) c3,.slice none 0 0]
   refine bodyPost_ret (results_cell_tmp2 rfl step_agg 10 step_size _ _ ⟨w.heap.size,0,none⟩ _ rfl hblk2.rd_) rfl ?_
   refine ⟨A3,c3,?_,?_,?_⟩
   ·show Ending.returned _=_
    unfold oneF
    rw [←HF.out]
    rfl
   ·unfold oneF
    rw [←HF.out]
    exact (HO.out.setRow_far (HO.out.ne_blk HB.out (by decide)) _).base_le (Nat.le_of_lt hz)
   ·exact bel_setRow (((Below.refl _ _).alloc (Nat.le_refl _) _).trans (below_of_drewN (HB3.out.mono (Nat.le_of_lt hz)))) (Nat.le_refl _) _
end Go.Proofs.Ytkcfhciffdnmmaa
namespace Go.Proofs.Ytkcfhciffdnmmaa
set_option linter.unusedSimpArgs false
set_option linter.unusedVariables false
open Go.RowKit
structure Part where
 old:Bool
 from_:Int
 to_:Int
 na:Option Addr
 nl:Nat
 nc:Nat
def Part.cells (p:Part):List Value:=[.bool p.old,.int .i64 p.from_,.int .i64 p.to_,.slice p.na p.nl p.nc]
theorem part_agg:∀ w,(isAgg 82).run Try.prog w=.ok true w:=fun w=>by kernel_rfl
theorem part_size:∀ w,(sizeOf 82).run Try.prog w=.ok 4 w:=fun w=>by kernel_rfl
theorem run_load_part (w:World) (ρ:Operand→Value) (x:Operand) (d:Option Tmp) (ty:TypeId) (pos:String) (af:Array _) (g:Option _) :
  (execOp ρ ⟨d,.load 82 x,ty,pos,af,g⟩).run Try.prog w=aggLoad Try.prog 82 4 w (ρ x):=run_load_agg _ part_agg 4 part_size w ρ x d ty pos af g
attribute [local go_sem ↓] run_load_part
attribute [local go_sem] rd_drewN rd_drew aggLoad_ptr aggRes_some
def Part.kept (p:Part):Int:=if p.old then (if p.to_ - p.from_ < 0 then 0 else p.to_ - p.from_) else 0
def Part.small (p:Part):Prop:=-1000000 < p.from_∧p.from_ < 1000000∧-1000000 < p.to_∧p.to_ < 1000000
end Go.Proofs.Ytkcfhciffdnmmaa
namespace Go.Proofs.Ytkcfhciffdnmmaa
set_option linter.unusedSimpArgs false
set_option linter.unusedVariables false
open Go.RowKit
attribute [local go_sem ↓] run_store_step
attribute [local go_sem] rd_drewN rd_drew aggStore_row rowSz_new World.setRow_alloc_new one_int one_bool one_slice
def tA:List Tok:=[97,98,99,100].map chr
def tB:List Tok:=[97,98,120,100].map chr
theorem t_F:oneF tA tB=2:=by decide
theorem t_T:oneT tA tB=3:=by decide
theorem t_E:oneE tA tB=3:=by decide
theorem t_S:(tB.take 3).drop 2=[chr 120]:=by decide
theorem t_ne:¬ tA=tB:=by decide
set_option maxHeartbeats 1000000 in
set_option maxRecDepth 100000 in
theorem live30 (w:World):Calls Try.prog 6 #[] w fun e w'=>e=.returned (.bool true)∧Below w.heap.size w w':=by
 have henc:∀ x,(runeC x).length=1:=fun _=>rfl
 go_enter Try.func6,Try.ntmps6
 go_wp2_with fail
 refine (Text_any _ _ _ [97,98,99,100] _ (Sl.newl w runeC 1 henc 21 [97,98,99,100] #[.int .i32 97,.int .i32 98,.int .i32 99,.int .i32 100] rfl) (by simp) (by simp)).mono ?_
 rintro e w1 ⟨A1,c1,rfl,ho1,hb1⟩
 go_wp2_with fail
 refine (Text_any _ _ _ [97,98,120,100] _ (Sl.newl w1 runeC 1 henc 21 [97,98,120,100] #[.int .i32 97,.int .i32 98,.int .i32 120,.int .i32 100] rfl) (by simp) (by simp)).mono ?_
 rintro e w2 ⟨A2,c2,rfl,ho2,hb2⟩
 have hs2:w1.heap.size < w2.heap.size:=by have:=hb2.size;simp at this;omega
 have ho1':Own w2 w.heap.size 71 12 Tok.cells (.slice A1 4 c1) tA:=(((ho1.alloc _).below hb2 (Nat.le_refl _)).base_le (by simp))
 have ho2':Own w2 w.heap.size 71 12 Tok.cells (.slice A2 4 c2) tB:=(ho2.base_le (by have:=hb1.size;simp at this ⊢;omega))
 have hB:Below w.heap.size w w2:=((Below.refl _ _).alloc (Nat.le_refl _) _).trans ((hb1.mono (by simp)).trans (((Below.refl _ _).alloc (by have:=hb1.size;simp at this ⊢;omega) _).trans (hb2.mono (by have:=hb1.size;simp at this ⊢;omega))))
 clear ho1 ho2 hb1 hb2 hs2
 go_wp2_with fail
 refine (One_differ A1 A2 c1 c2 _ _ tA tB w2 ho1'.sl' ho2'.sl' (Nat.le_refl _) (Nat.le_refl _) (by decide) (by decide) ho2'.cap.1 t_ne).mono ?_
 rintro e w3 ⟨A3,c3,rfl,ho3,hb3⟩
 have ho3':Own w3 w2.heap.size 71 12 Tok.cells (.slice A3 1 c3) [chr 120]:=by
  have h:=ho3
  rw [t_F,t_E,t_S] at h
  exact h
 rw [t_F,t_T,t_E]
 obtain ⟨b,o,rfl,hb⟩:=ho3'.sl'.addr (by decide) (by decide)
 have hr:∀ ob,(w3.alloc ob).cell? ⟨b,o+3,none⟩=some (.int .i32 120):=fun ob=>by
  rw [World.cell?_alloc_lt _ _ _ hb]
  have:=ho3'.sl'.cell_ (k:=0) (by decide) 3 (by decide)
  simpa [chr,Tok.cells] using this
 have HB:=Lib.hid (hB.trans (hb3.mono hB.size))
 clear ho3 ho3' hb3 ho1' ho2' hB
 go_wp2
 go_ret
 exact ⟨rfl,HB.out.alloc HB.out.size _⟩
end Go.Proofs.Ytkcfhciffdnmmaa
namespace Go.Proofs.Ytkcfhciffdnmmaa
set_option linter.unusedSimpArgs false
set_option linter.unusedVariables false
set_option maxRecDepth 100000
set_option maxHeartbeats 1000000
open Go.RowKit
theorem live30_h:HPure Try.prog 6 [] (boolV true):=by
  refine ⟨⟨_,_,Try.func6,rfl,by kernel_rfl⟩,fun w F vs hF hr hw=>?_⟩
  cases vs with
  | cons v vs=>exact hr.elim
  | nil =>
    refine (live30 w).mono ?_
    rintro e w' ⟨rfl,hb⟩
    exact pure_imm hF hb
theorem oneV_small (a b:List Tok) (ha:a.length≤150) (hb:b.length≤150):(oneV a b).sl.length≤20000∧(oneV a b).sets.length≤20000:=by
 refine ⟨?_,Nat.zero_le _⟩
 show ((b.take (b.length - bk a b (froV a b) 0)).drop (froV a b)).length≤_
 rw [List.length_drop,List.length_take];omega
theorem partsV_len (b:List Tok) (ks:List (Nat×Nat)):(partsV b ks).length≤2 * ks.length+1:=by
 have h1:=partsI_len b ks ks.length
 rw [List.take_length] at h1
 have h2:=freshV_len b (partsI b ks).1 (partsI b ks).2 b.length
 unfold partsV
 omega
theorem mk_bound {a:List Tok} {l:List Prt} {r:Nat×List Tok×Option Bool} (h:mkF a l=some r) {i:Nat} (hi:i < l.length) (ho:(l.getD i default).old=true):(l.getD i default).f < (l.getD i default).t∧(l.getD i default).t≤a.length:=by
 obtain ⟨r1,h1⟩:=mkF_take h (i+1)
 obtain ⟨⟨e,o,pv⟩,h2⟩:=mkF_take h i
 have h3:=mkF_next a hi
 rw [h1,h2] at h3
 have:=(mkS_old h3.symm ho).1
 omega
theorem diffRows_h (a b:List Tok):HPure Try.prog 3 [toksV a,toksV b] (boolV true):=by
 refine hpure_of Try.func3 rfl kr _ _ _ rfl 60 rfl rfl (fun w F=>?_)
 refine srg fun N h1=>sa<|snl h1<|hw_seq fun Nh2 h2=>srg fun N h3=>sm ?_
 first
 | refine hq_ 11 (hop_len_sl (T:=22) rfl (elOf_spec el_22).1 rfl) rfl rfl pre0 rfl rfl ?_
 | refine hq_ 11 (hop_len_os (T:=22) rfl (elOf_spec el_22).1 rfl) rfl rfl pre0 rfl rfl ?_
 | refine hq_ 11 (hop_len_nil (T:=22) rfl (elOf_spec el_22).1 rfl) rfl rfl pre0 rfl rfl ?_
 refine s0 (hop_gtr rfl rfl) ?_
 refine sm ?_
 first
 | refine stg 13 (fun hb=>hop_move rfl) rfl rfl rfl rfl rfl ?_
 | refine sth 13 (fun hb=>hop_move rfl) rfl rfl rfl rfl rfl ?_
 first
 | refine stg 13 (fun hb=>hop_len_sl (T:=22) rfl (elOf_spec el_22).1 rfl) rfl rfl rfl rfl rfl ?_
 | refine sth 13 (fun hb=>hop_len_sl (T:=22) rfl (elOf_spec el_22).1 rfl) rfl rfl rfl rfl rfl ?_
 | refine stg 13 (fun hb=>hop_len_os (T:=22) rfl (elOf_spec el_22).1 rfl) rfl rfl rfl rfl rfl ?_
 | refine sth 13 (fun hb=>hop_len_os (T:=22) rfl (elOf_spec el_22).1 rfl) rfl rfl rfl rfl rfl ?_
 | refine stg 13 (fun hb=>hop_len_nil (T:=22) rfl (elOf_spec el_22).1 rfl) rfl rfl rfl rfl rfl ?_
 | refine sth 13 (fun hb=>hop_len_nil (T:=22) rfl (elOf_spec el_22).1 rfl) rfl rfl rfl rfl rfl ?_
 first
 | refine stg 13 (fun hb=>hop_gtr rfl rfl) rfl rfl rfl rfl rfl ?_
 | refine sth 13 (fun hb=>hop_gtr rfl rfl) rfl rfl rfl rfl rfl ?_
 first
 | refine hq_p 17 (hstep_and _ _ rfl rfl rfl) rfl rfl rfl ?_
 | refine hq_p 17 (hstep_or _ _ rfl rfl rfl) rfl rfl rfl ?_
 | refine hq_p 17 (hstep_ite _ _ _ rfl rfl rfl) rfl rfl rfl ?_
 | refine hq_p 17 (hstep_pick _ _ _ _ rfl rfl rfl (fun _=>.refl _) (fun _=>.refl _)) rfl rfl rfl ?_
 refine nu ?_
 refine h3 _ ?_
 refine wc (fun hc0=>?_) (fun hc0=>?_)
 ·have hr0:=hc0;(try simp only [hcs,Int.reduceToNat] at hc0)
  refine srg fun N h4=>?_
  refine s0 (hop_call0 (xs:=[]) (live30_h) trivial trivial) ?_
  refine sa<|snl h4<|hw_ret<|hq_then_ret ?_
  refine hq_ret1 rfl (rval_tmp rfl) [] rfl pre0 ?_
  exact Frz.fz
 have hr0:=hc0;(try simp only [hcs,Int.reduceToNat] at hc0)
 have hA1:a.length≤150:=om;have hB1:b.length≤150:=om;have hs:∀ i k,samV a b i k=true→i < a.length∧k < b.length∧a.getD i tok0=b.getD k tok0:=(fun i k h=>samV_iff.1 h);obtain ⟨hmk,hkv⟩:=parts_mk hs (keepV (samV a b) a.length b.length) (keepV_rises (samV a b) a.length b.length (fun _ _=>samV_lt));have hkl:=keepV_len (samV a b) a.length b.length (fun _ _=>samV_lt);have hll:=lcs_le (samV a b) a.length b.length;have hpl:=partsV_len b (keepV (samV a b) a.length b.length)
 refine hw_skip<|h2 _<|srg fun N h5=>sm<|sm ?_
 refine s0 (hop_call0 (xs:=[_,_]) (one_h a b om om) ⟨rfl,⟨rfl,trivial⟩⟩ ⟨fe,⟨fe,trivial⟩⟩) ?_
 refine sm ?_
 refine s0 hex ?_
 refine s0 hex ?_
 refine hm_1 5 (hop_alloc (id:=5) (sz:=10) zc_26 rfl rfl omx omx) rfl rfl pre0 rfl rfl (c':=1) rfl ?_
 first
 | refine hm_s1 (hol_storeW ty_26 rfl rfl rfl rfl) rfl rfl (pre1 rfl) (c':=2) rfl ?_
 | refine hm_s1 (hol_store ty_26 rfl rfl rfl rfl (by first | exact Nat.le_of_ble_eq_true rfl | omega | (dsimp only;omega) | (simp <;> omega)) (by first | exact Nat.le_of_ble_eq_true rfl | omega | (dsimp only;omega) | (simp <;> omega)) (by first | exact Nat.le_of_ble_eq_true rfl | omega | (dsimp only;omega) | (simp <;> omega))) rfl rfl (pre1 rfl) (c':=2) rfl ?_
 refine sa<|snl h5<|srg fun N h6=>sm<|sm ?_
 refine s0 (hop_call0 (xs:=[_,_]) (same13_h a b om om) ⟨rfl,⟨rfl,trivial⟩⟩ ⟨fe,⟨fe,trivial⟩⟩) ?_
 refine sa<|snl h6<|srg fun N h7=>?_
 refine s0 (hop_build (hs:=[]) st_26 rfl rfl trivial) ?_
 refine hm_1 8 (hop_alloc (id:=8) (sz:=10) zc_26 rfl rfl omx omx) rfl rfl pre0 rfl rfl (c':=3) rfl ?_
 first
 | refine hm_s1 (hol_storeW ty_26 rfl rfl rfl rfl) rfl rfl (pre1 rfl) (c':=4) rfl ?_
 | refine hm_s1 (hol_store ty_26 rfl rfl rfl rfl (by first | exact Nat.le_of_ble_eq_true rfl | omega | (dsimp only;omega) | (simp <;> omega)) (by first | exact Nat.le_of_ble_eq_true rfl | omega | (dsimp only;omega) | (simp <;> omega)) (by first | exact Nat.le_of_ble_eq_true rfl | omega | (dsimp only;omega) | (simp <;> omega))) rfl rfl (pre1 rfl) (c':=4) rfl ?_
 refine snl h7<|hw_seq fun Nh8 h8=>srg fun N h9=>sm ?_
 refine s0 (hop_not rfl) ?_
 refine snl h9 ?_
 refine wc (fun hc1=>?_) (fun hc1=>?_)
 ·have hr1:=hc1;(try simp only [hcs,Int.reduceToNat] at hc1)
  have hab:¬ a=b:=(by simpa using hr1)
  refine hw_region<|sm<|sm ?_
  refine s0 (hop_call0 (xs:=[_,_]) (refOne_h a b om om) ⟨rfl,⟨rfl,trivial⟩⟩ ⟨fe,⟨fe,trivial⟩⟩) ?_
  first
  | refine hm_s1 (hol_storeW ty_26 rfl rfl rfl rfl) rfl rfl (pre1 rfl) (c':=5) rfl ?_
  | refine hm_s1 (hol_store ty_26 rfl rfl rfl rfl (by first | exact Nat.le_of_ble_eq_true rfl | omega | (dsimp only;omega) | (simp <;> omega)) (by first | exact Nat.le_of_ble_eq_true rfl | omega | (dsimp only;omega) | (simp <;> omega)) (by first | exact Nat.le_of_ble_eq_true rfl | omega | (dsimp only;omega) | (simp <;> omega))) rfl rfl (pre1 rfl) (c':=5) rfl ?_
  refine snl h8<|hw_seq fun Nh10 h10=>srg fun N h11=>sm<|sm ?_
  refine s0 (hop_beq (fun w=>by kernel_rfl) rfl rfl) ?_
  refine sm ?_
  first
  | refine hq_g 38 3 37 false _ (fun hb=>hol_load ty_26 rfl (by first | exact Nat.le_of_ble_eq_true rfl | (simp at hb;first | omega | (dsimp only;omega) | (simp <;> omega)) | omega | (dsimp only;omega)) (by first | exact Nat.le_of_ble_eq_true rfl | (simp at hb;first | omega | (dsimp only;omega) | (simp <;> omega)) | omega | (dsimp only;omega)) (fun h=>(by first | rfl | cases h))) rfl rfl rfl rfl (pre1 rfl) rfl rfl rfl ?_
  | refine hq_g2 38 3 37 _ _ false _ (fun hb=>hol_load ty_26 rfl (by first | exact Nat.le_of_ble_eq_true rfl | (simp at hb;first | omega | (dsimp only;omega) | (simp <;> omega)) | omega | (dsimp only;omega)) (by first | exact Nat.le_of_ble_eq_true rfl | (simp at hb;first | omega | (dsimp only;omega) | (simp <;> omega)) | omega | (dsimp only;omega)) (fun h=>(by first | rfl | cases h))) rfl rfl rfl rfl (pre1 rfl) rfl rfl rfl ?_
  | refine stg 37 (fun hb=>hop_load_fp ty_26 rfl (by first | exact Nat.le_of_ble_eq_true rfl | (simp at hb;first | omega | (dsimp only;omega) | (simp <;> omega)) | omega | (dsimp only;omega)) (fun h=>(by first | rfl | cases h))) rfl rfl rfl rfl rfl ?_
  | refine sth 37 (fun hb=>hop_load_fp ty_26 rfl (by first | exact Nat.le_of_ble_eq_true rfl | (simp at hb;first | omega | (dsimp only;omega) | (simp <;> omega)) | omega | (dsimp only;omega)) (fun h=>(by first | rfl | cases h))) rfl rfl rfl rfl rfl ?_
  first
  | refine hq_g 39 3 37 false _ (fun hb=>hol_load ty_26 rfl (by first | exact Nat.le_of_ble_eq_true rfl | (simp at hb;first | omega | (dsimp only;omega) | (simp <;> omega)) | omega | (dsimp only;omega)) (by first | exact Nat.le_of_ble_eq_true rfl | (simp at hb;first | omega | (dsimp only;omega) | (simp <;> omega)) | omega | (dsimp only;omega)) (fun h=>(by first | rfl | cases h))) rfl rfl rfl rfl (pre1 rfl) rfl rfl rfl ?_
  | refine hq_g2 39 3 37 _ _ false _ (fun hb=>hol_load ty_26 rfl (by first | exact Nat.le_of_ble_eq_true rfl | (simp at hb;first | omega | (dsimp only;omega) | (simp <;> omega)) | omega | (dsimp only;omega)) (by first | exact Nat.le_of_ble_eq_true rfl | (simp at hb;first | omega | (dsimp only;omega) | (simp <;> omega)) | omega | (dsimp only;omega)) (fun h=>(by first | rfl | cases h))) rfl rfl rfl rfl (pre1 rfl) rfl rfl rfl ?_
  | refine stg 37 (fun hb=>hop_load_fp ty_26 rfl (by first | exact Nat.le_of_ble_eq_true rfl | (simp at hb;first | omega | (dsimp only;omega) | (simp <;> omega)) | omega | (dsimp only;omega)) (fun h=>(by first | rfl | cases h))) rfl rfl rfl rfl rfl ?_
  | refine sth 37 (fun hb=>hop_load_fp ty_26 rfl (by first | exact Nat.le_of_ble_eq_true rfl | (simp at hb;first | omega | (dsimp only;omega) | (simp <;> omega)) | omega | (dsimp only;omega)) (fun h=>(by first | rfl | cases h))) rfl rfl rfl rfl rfl ?_
  first
  | refine stg 37 (fun hb=>hop_call0 (xs:=[_,_]) (same25s_h (oneV a b) (oneV a b) (oneV_small a b hA1 hB1) (oneV_small a b hA1 hB1)) ⟨rfl,⟨rfl,trivial⟩⟩ ⟨(Fz.eq (by show HV.agg 10 (stF (if a=b then St.none else oneV a b))=stV (oneV a b);rw [if_neg hab])),⟨(Fz.eq rfl),trivial⟩⟩) rfl rfl rfl rfl rfl ?_
  | refine sth 37 (fun hb=>hop_call0 (xs:=[_,_]) (same25s_h (oneV a b) (oneV a b) (oneV_small a b hA1 hB1) (oneV_small a b hA1 hB1)) ⟨rfl,⟨rfl,trivial⟩⟩ ⟨(Fz.eq (by show HV.agg 10 (stF (if a=b then St.none else oneV a b))=stV (oneV a b);rw [if_neg hab])),⟨(Fz.eq rfl),trivial⟩⟩) rfl rfl rfl rfl rfl ?_
  first
  | refine stg 37 (fun hb=>hop_not rfl) rfl rfl rfl rfl rfl ?_
  | refine sth 37 (fun hb=>hop_not rfl) rfl rfl rfl rfl rfl ?_
  first
  | refine hq_p 42 (hstep_and _ _ rfl rfl rfl) rfl rfl rfl ?_
  | refine hq_p 42 (hstep_or _ _ rfl rfl rfl) rfl rfl rfl ?_
  | refine hq_p 42 (hstep_ite _ _ _ rfl rfl rfl) rfl rfl rfl ?_
  | refine hq_p 42 (hstep_pick _ _ _ _ rfl rfl rfl (fun _=>.refl _) (fun _=>.refl _)) rfl rfl rfl ?_
  refine nu ?_
  refine h11 _ ?_
  refine wc (fun hc2=>?_) (fun hc2=>?_)
  ·have hr2:=hc2;(try simp only [hcs,Int.reduceToNat] at hc2)
   exfalso;by_cases h:a=b <;> simp [h] at hr2
  have hr2:=hc2;(try simp only [hcs,Int.reduceToNat] at hc2)
  refine hw_skip<|h10 _<|srg fun N h12=>sm<|sm ?_
  refine s0 (hop_call0 (xs:=[_,_]) (parts_h a b hA1 hB1) ⟨rfl,⟨rfl,trivial⟩⟩ ⟨fe,⟨fe,trivial⟩⟩) ?_
  refine sa<|snl h12<|hw_seq fun Nh13 h13=>srg fun N h14=>sm<|sm<|sm ?_
  refine s0 (hop_call0 (xs:=[_,_,_]) (made_h a b (partsV b (keepV (samV a b) a.length b.length)) om om om (by obtain ⟨e,pv,h⟩:=hmk;exact ⟨e,pv,h⟩)) ⟨rfl,⟨rfl,⟨rfl,trivial⟩⟩⟩ ⟨(Fz.eq rfl),⟨(Fz.eq rfl),⟨(Fz.eq rfl),trivial⟩⟩⟩) ?_
  refine s0 (hop_not rfl) ?_
  refine snl h14 ?_
  refine wc (fun hc3=>?_) (fun hc3=>?_)
  ·have hr3:=hc3;(try simp only [hcs,Int.reduceToNat] at hc3)
   exfalso;simp at hr3
  have hr3:=hc3;(try simp only [hcs,Int.reduceToNat] at hc3)
  refine hw_skip<|h13 _<|srg fun N h15=>sm ?_
  refine s0 (hop_call0 (xs:=[_]) (kept_h (partsV b (keepV (samV a b) a.length b.length)) om (fun i hi ho=>by obtain ⟨e,pv,h⟩:=hmk;have:=mk_bound h hi ho;omega)) ⟨rfl,trivial⟩ ⟨(Fz.eq rfl),trivial⟩) ?_
  refine sm<|sm ?_
  refine s0 (hop_call0 (xs:=[_,_]) (most_h a b om om) ⟨rfl,⟨rfl,trivial⟩⟩ ⟨fe,⟨fe,trivial⟩⟩) ?_
  refine s0 hqi ?_
  refine sm ?_
  first
  | refine stg 57 (fun hb=>hop_call0 (xs:=[]) (live30_h) trivial trivial) rfl rfl rfl rfl rfl ?_
  | refine sth 57 (fun hb=>hop_call0 (xs:=[]) (live30_h) trivial trivial) rfl rfl rfl rfl rfl ?_
  first
  | refine hq_p 59 (hstep_and _ _ rfl rfl rfl) rfl rfl rfl ?_
  | refine hq_p 59 (hstep_or _ _ rfl rfl rfl) rfl rfl rfl ?_
  | refine hq_p 59 (hstep_ite _ _ _ rfl rfl rfl) rfl rfl rfl ?_
  | refine hq_p 59 (hstep_pick _ _ _ _ rfl rfl rfl (fun _=>.refl _) (fun _=>.refl _)) rfl rfl rfl ?_
  refine sa ?_
  refine nu ?_
  refine h15 _<|hw_ret ?_
  refine hq_ret1 rfl (rval_tmp rfl) [] rfl pre0 ?_
  rw [hkv,hkl];exact Fz.eq (by simp)
 have hr1:=hc1;(try simp only [hcs,Int.reduceToNat] at hc1)
 have hab:a=b:=(by simpa using hr1)
 refine hw_skip<|h8 _<|hw_seq fun Nh16 h16=>srg fun N h17=>sm<|sm ?_
 refine s0 (hop_beq (fun w=>by kernel_rfl) rfl rfl) ?_
 refine sm ?_
 first
 | refine hq_g 38 3 37 false _ (fun hb=>hol_load ty_26 rfl (by first | exact Nat.le_of_ble_eq_true rfl | (simp at hb;first | omega | (dsimp only;omega) | (simp <;> omega)) | omega | (dsimp only;omega)) (by first | exact Nat.le_of_ble_eq_true rfl | (simp at hb;first | omega | (dsimp only;omega) | (simp <;> omega)) | omega | (dsimp only;omega)) (fun h=>(by first | rfl | cases h))) rfl rfl rfl rfl (pre1 rfl) rfl rfl rfl ?_
 | refine hq_g2 38 3 37 _ _ false _ (fun hb=>hol_load ty_26 rfl (by first | exact Nat.le_of_ble_eq_true rfl | (simp at hb;first | omega | (dsimp only;omega) | (simp <;> omega)) | omega | (dsimp only;omega)) (by first | exact Nat.le_of_ble_eq_true rfl | (simp at hb;first | omega | (dsimp only;omega) | (simp <;> omega)) | omega | (dsimp only;omega)) (fun h=>(by first | rfl | cases h))) rfl rfl rfl rfl (pre1 rfl) rfl rfl rfl ?_
 | refine stg 37 (fun hb=>hop_load_fp ty_26 rfl (by first | exact Nat.le_of_ble_eq_true rfl | (simp at hb;first | omega | (dsimp only;omega) | (simp <;> omega)) | omega | (dsimp only;omega)) (fun h=>(by first | rfl | cases h))) rfl rfl rfl rfl rfl ?_
 | refine sth 37 (fun hb=>hop_load_fp ty_26 rfl (by first | exact Nat.le_of_ble_eq_true rfl | (simp at hb;first | omega | (dsimp only;omega) | (simp <;> omega)) | omega | (dsimp only;omega)) (fun h=>(by first | rfl | cases h))) rfl rfl rfl rfl rfl ?_
 first
 | refine hq_g 39 3 37 false _ (fun hb=>hol_load ty_26 rfl (by first | exact Nat.le_of_ble_eq_true rfl | (simp at hb;first | omega | (dsimp only;omega) | (simp <;> omega)) | omega | (dsimp only;omega)) (by first | exact Nat.le_of_ble_eq_true rfl | (simp at hb;first | omega | (dsimp only;omega) | (simp <;> omega)) | omega | (dsimp only;omega)) (fun h=>(by first | rfl | cases h))) rfl rfl rfl rfl (pre1 rfl) rfl rfl rfl ?_
 | refine hq_g2 39 3 37 _ _ false _ (fun hb=>hol_load ty_26 rfl (by first | exact Nat.le_of_ble_eq_true rfl | (simp at hb;first | omega | (dsimp only;omega) | (simp <;> omega)) | omega | (dsimp only;omega)) (by first | exact Nat.le_of_ble_eq_true rfl | (simp at hb;first | omega | (dsimp only;omega) | (simp <;> omega)) | omega | (dsimp only;omega)) (fun h=>(by first | rfl | cases h))) rfl rfl rfl rfl (pre1 rfl) rfl rfl rfl ?_
 | refine stg 37 (fun hb=>hop_load_fp ty_26 rfl (by first | exact Nat.le_of_ble_eq_true rfl | (simp at hb;first | omega | (dsimp only;omega) | (simp <;> omega)) | omega | (dsimp only;omega)) (fun h=>(by first | rfl | cases h))) rfl rfl rfl rfl rfl ?_
 | refine sth 37 (fun hb=>hop_load_fp ty_26 rfl (by first | exact Nat.le_of_ble_eq_true rfl | (simp at hb;first | omega | (dsimp only;omega) | (simp <;> omega)) | omega | (dsimp only;omega)) (fun h=>(by first | rfl | cases h))) rfl rfl rfl rfl rfl ?_
 first
 | refine stg 37 (fun hb=>hop_call0 (xs:=[_,_]) (same25s_h St.none St.none ⟨by decide,by decide⟩ ⟨by decide,by decide⟩) ⟨rfl,⟨rfl,trivial⟩⟩ ⟨(Fz.eq (by show HV.agg 10 (stF (if a=b then St.none else oneV a b))=stV St.none;rw [if_pos hab])),⟨(fz_agg10 (by first | exact .imm _ | exact .nil _ _ _ (by decide) _ | exact fz_toks _ | exact fz_mkss _ | exact Frz.fz) (by first | exact .imm _ | exact .nil _ _ _ (by decide) _ | exact fz_toks _ | exact fz_mkss _ | exact Frz.fz) (by first | exact .imm _ | exact .nil _ _ _ (by decide) _ | exact fz_toks _ | exact fz_mkss _ | exact Frz.fz) (by first | exact .imm _ | exact .nil _ _ _ (by decide) _ | exact fz_toks _ | exact fz_mkss _ | exact Frz.fz) (by first | exact .imm _ | exact .nil _ _ _ (by decide) _ | exact fz_toks _ | exact fz_mkss _ | exact Frz.fz) (by first | exact .imm _ | exact .nil _ _ _ (by decide) _ | exact fz_toks _ | exact fz_mkss _ | exact Frz.fz) (by first | exact .imm _ | exact .nil _ _ _ (by decide) _ | exact fz_toks _ | exact fz_mkss _ | exact Frz.fz) (by first | exact .imm _ | exact .nil _ _ _ (by decide) _ | exact fz_toks _ | exact fz_mkss _ | exact Frz.fz) (by first | exact .imm _ | exact .nil _ _ _ (by decide) _ | exact fz_toks _ | exact fz_mkss _ | exact Frz.fz) (by first | exact .imm _ | exact .nil _ _ _ (by decide) _ | exact fz_toks _ | exact fz_mkss _ | exact Frz.fz)),trivial⟩⟩) rfl rfl rfl rfl rfl ?_
 | refine sth 37 (fun hb=>hop_call0 (xs:=[_,_]) (same25s_h St.none St.none ⟨by decide,by decide⟩ ⟨by decide,by decide⟩) ⟨rfl,⟨rfl,trivial⟩⟩ ⟨(Fz.eq (by show HV.agg 10 (stF (if a=b then St.none else oneV a b))=stV St.none;rw [if_pos hab])),⟨(fz_agg10 (by first | exact .imm _ | exact .nil _ _ _ (by decide) _ | exact fz_toks _ | exact fz_mkss _ | exact Frz.fz) (by first | exact .imm _ | exact .nil _ _ _ (by decide) _ | exact fz_toks _ | exact fz_mkss _ | exact Frz.fz) (by first | exact .imm _ | exact .nil _ _ _ (by decide) _ | exact fz_toks _ | exact fz_mkss _ | exact Frz.fz) (by first | exact .imm _ | exact .nil _ _ _ (by decide) _ | exact fz_toks _ | exact fz_mkss _ | exact Frz.fz) (by first | exact .imm _ | exact .nil _ _ _ (by decide) _ | exact fz_toks _ | exact fz_mkss _ | exact Frz.fz) (by first | exact .imm _ | exact .nil _ _ _ (by decide) _ | exact fz_toks _ | exact fz_mkss _ | exact Frz.fz) (by first | exact .imm _ | exact .nil _ _ _ (by decide) _ | exact fz_toks _ | exact fz_mkss _ | exact Frz.fz) (by first | exact .imm _ | exact .nil _ _ _ (by decide) _ | exact fz_toks _ | exact fz_mkss _ | exact Frz.fz) (by first | exact .imm _ | exact .nil _ _ _ (by decide) _ | exact fz_toks _ | exact fz_mkss _ | exact Frz.fz) (by first | exact .imm _ | exact .nil _ _ _ (by decide) _ | exact fz_toks _ | exact fz_mkss _ | exact Frz.fz)),trivial⟩⟩) rfl rfl rfl rfl rfl ?_
 first
 | refine stg 37 (fun hb=>hop_not rfl) rfl rfl rfl rfl rfl ?_
 | refine sth 37 (fun hb=>hop_not rfl) rfl rfl rfl rfl rfl ?_
 first
 | refine hq_p 42 (hstep_and _ _ rfl rfl rfl) rfl rfl rfl ?_
 | refine hq_p 42 (hstep_or _ _ rfl rfl rfl) rfl rfl rfl ?_
 | refine hq_p 42 (hstep_ite _ _ _ rfl rfl rfl) rfl rfl rfl ?_
 | refine hq_p 42 (hstep_pick _ _ _ _ rfl rfl rfl (fun _=>.refl _) (fun _=>.refl _)) rfl rfl rfl ?_
 refine nu ?_
 refine h17 _ ?_
 refine wc (fun hc2=>?_) (fun hc2=>?_)
 ·have hr2:=hc2;(try simp only [hcs,Int.reduceToNat] at hc2)
  exfalso;by_cases h:a=b <;> simp [h] at hr2
 have hr2:=hc2;(try simp only [hcs,Int.reduceToNat] at hc2)
 refine hw_skip<|h16 _<|srg fun N h18=>sm<|sm ?_
 refine s0 (hop_call0 (xs:=[_,_]) (parts_h a b hA1 hB1) ⟨rfl,⟨rfl,trivial⟩⟩ ⟨fe,⟨fe,trivial⟩⟩) ?_
 refine sa<|snl h18<|hw_seq fun Nh19 h19=>srg fun N h20=>sm<|sm<|sm ?_
 refine s0 (hop_call0 (xs:=[_,_,_]) (made_h a b (partsV b (keepV (samV a b) a.length b.length)) om om om (by obtain ⟨e,pv,h⟩:=hmk;exact ⟨e,pv,h⟩)) ⟨rfl,⟨rfl,⟨rfl,trivial⟩⟩⟩ ⟨(Fz.eq rfl),⟨(Fz.eq rfl),⟨(Fz.eq rfl),trivial⟩⟩⟩) ?_
 refine s0 (hop_not rfl) ?_
 refine snl h20 ?_
 refine wc (fun hc3=>?_) (fun hc3=>?_)
 ·have hr3:=hc3;(try simp only [hcs,Int.reduceToNat] at hc3)
  exfalso;simp at hr3
 have hr3:=hc3;(try simp only [hcs,Int.reduceToNat] at hc3)
 refine hw_skip<|h19 _<|srg fun N h21=>sm ?_
 refine s0 (hop_call0 (xs:=[_]) (kept_h (partsV b (keepV (samV a b) a.length b.length)) om (fun i hi ho=>by obtain ⟨e,pv,h⟩:=hmk;have:=mk_bound h hi ho;omega)) ⟨rfl,trivial⟩ ⟨(Fz.eq rfl),trivial⟩) ?_
 refine sm<|sm ?_
 refine s0 (hop_call0 (xs:=[_,_]) (most_h a b om om) ⟨rfl,⟨rfl,trivial⟩⟩ ⟨fe,⟨fe,trivial⟩⟩) ?_
 refine s0 hqi ?_
 refine sm ?_
 first
 | refine stg 57 (fun hb=>hop_call0 (xs:=[]) (live30_h) trivial trivial) rfl rfl rfl rfl rfl ?_
 | refine sth 57 (fun hb=>hop_call0 (xs:=[]) (live30_h) trivial trivial) rfl rfl rfl rfl rfl ?_
 first
 | refine hq_p 59 (hstep_and _ _ rfl rfl rfl) rfl rfl rfl ?_
 | refine hq_p 59 (hstep_or _ _ rfl rfl rfl) rfl rfl rfl ?_
 | refine hq_p 59 (hstep_ite _ _ _ rfl rfl rfl) rfl rfl rfl ?_
 | refine hq_p 59 (hstep_pick _ _ _ _ rfl rfl rfl (fun _=>.refl _) (fun _=>.refl _)) rfl rfl rfl ?_
 refine sa ?_
 refine nu ?_
 refine h21 _<|hw_ret ?_
 refine hq_ret1 rfl (rval_tmp rfl) [] rfl pre0 ?_
 rw [hkv,hkl];exact Fz.eq (by simp)
end Go.Proofs.Ytkcfhciffdnmmaa
namespace Go.Proofs.Ytkcfhciffdnmmaa
theorem libW_none (w:World):LibW w where
 ok b hb:=by
  obtain ⟨n,hn,hg⟩:=hb
  have h1:(libNames.all fun n=>(Try.prog.globalNamed n).isNone)=true:=by kernel_rfl
  have:=List.all_eq_true.1 h1 n hn
  rw [hg] at this;cases this
 tab h:=by
  have h1:(Try.prog.globalNamed "internal/strconv.uint64pow10").isSome=false:=by kernel_rfl
  unfold hasLib at h;rw [h1] at h;cases h
 syn h:=by
  have h1:(Try.prog.globalNamed "strconv.ErrSyntax").isSome=false:=by kernel_rfl
  unfold hasLib at h;rw [h1] at h;cases h
 rng h:=by
  have h1:(Try.prog.globalNamed "strconv.ErrRange").isSome=false:=by kernel_rfl
  unfold hasLib at h;rw [h1] at h;cases h
 max g hg:=by
  have h1:(Try.prog.globalNamed "internal/bytealg.MaxLen").isNone=true:=by kernel_rfl
  rw [hg] at h1;cases h1
 dbt h:=by
  have h1:(Try.prog.globalNamed "math/bits.deBruijn64tab").isSome=false:=by kernel_rfl
  unfold hasLib at h;rw [h1] at h;cases h
end Go.Proofs.Ytkcfhciffdnmmaa
namespace Go.Proofs.Ytkcfhciffdnmmaa
set_option linter.unusedSimpArgs false
set_option linter.unusedVariables false
open Go.RowKit
theorem DiffRows_walk (w:World) (a0:Option Addr) (n0 c0:Nat) (l0:List Tok) (hn0:l0.length=n0) (sl0:Sl w w.heap.size 12 Tok.cells a0 l0) (hc0:n0≤c0) (hm0:c0≤9223372036854775807) (ok0:∀ x∈l0,x.ok)
  (a1:Option Addr) (n1 c1:Nat) (l1:List Tok) (hn1:l1.length=n1) (sl1:Sl w w.heap.size 12 Tok.cells a1 l1) (hc1:n1≤c1) (hm1:c1≤9223372036854775807) (ok1:∀ x∈l1,x.ok) :
  Calls Try.prog 3 #[.slice a0 n0 c0,.slice a1 n1 c1] w fun e w'=>e=.returned (.bool true)∧Below w.heap.size w w':=by
 subst hn0;subst hn1
 exact law_walk (diffRows_h l0 l1) w [.slice a0 l0.length c0,.slice a1 l1.length c1] ⟨rep_toks sl0 hc0 (by unfold maxLen;omega),rep_toks sl1 hc1 (by unfold maxLen;omega),trivial⟩ (libW_none w)
end Go.Proofs.Ytkcfhciffdnmmaa
