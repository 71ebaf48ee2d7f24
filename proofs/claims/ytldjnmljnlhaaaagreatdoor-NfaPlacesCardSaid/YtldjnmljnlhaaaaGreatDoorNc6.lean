/-
  ExprRight: an expression's names, by the program; lists of texts compared.
-/
import Derived.Test.YtldjnmljnlhaaaaGreatDoorEr2
import Derived.Test.YtldjnmljnlhaaaaGreatDoorEx4
import Derived.Test.YtldjnmljnlhaaaaGreatDoorBagOps
namespace Go.Proofs.YtldjnmljnlhaaaaGreatDoor
set_option linter.unusedSimpArgs false
set_option linter.unusedVariables false
set_option maxRecDepth 100000
set_option maxHeartbeats 1000000
open Go.RowKit
@[reducible] def nmsF (ls:List (List UInt8)):Nat→Nat→HV:=fun i _=>strV (ls.getD i [])
@[reducible] def nmsV (ls:List (List UInt8)):HV:=.sl 1 ls.length (nmsF ls)
@[reducible] def nmsO (g:Nat) (ls:List (List UInt8)):HObj:=⟨g,ls.length,1,9,0,nmsF ls⟩
@[reducible] def boxS (g g2 n:Nat):HObj:=⟨g,1,1,66,0,fun _ _=>.os 8001 g2 0 n⟩
instance frz_nmsV (l:List (List UInt8)):Frz (nmsV l):=⟨.sl _ _ _ _ fun i j _ _=>.imm _⟩
theorem okz_nms {kp sh:List (Nat×HObj)} {g:Nat} {l:List (List UInt8)}:OKz kp sh (nmsO g l) (nmsO g l):=.of fun i j _ _=>.fz _ _ (.imm _)
def idxS (l:List (List UInt8)) (s:List UInt8):Int:=if s∈l then (l.idxOf s:Int) else -1
theorem idx_of {l:List (List UInt8)} {s:List UInt8} {k:Nat} (hk:k < l.length) (h:l.getD k []=s) (hn:∀ i,i < k→l.getD i []≠s):idxS l s=(k:Int):=by
  have hk':l[k]=s:=by rwa [List.getD_eq_getElem?_getD,List.getElem?_eq_getElem hk] at h
  have hm:s∈l:=by rw [←hk'];exact List.getElem_mem hk
  unfold idxS
  rw [if_pos hm]
  congr 1
  have hi:=List.idxOf_lt_length_of_mem hm
  have hgi:l[l.idxOf s]=s:=List.getElem_idxOf hi
  rcases Nat.lt_trichotomy (l.idxOf s) k with h1 | h1 | h1
  · exact absurd (by rw [List.getD_eq_getElem?_getD,List.getElem?_eq_getElem hi];exact hgi) (hn _ h1)
  · exact h1
  · have := List.not_of_lt_findIdx (p := (· == s)) (xs := l) (i := k) h1
    simp [hk'] at this
theorem idx_no {l:List (List UInt8)} {s:List UInt8} (hn:∀ i,i < l.length→l.getD i []≠s):idxS l s=-1:=by
  unfold idxS
  rw [if_neg]
  intro hm
  obtain ⟨i,hi,h⟩:=List.mem_iff_getElem.1 hm
  exact hn i hi (by rw [List.getD_eq_getElem?_getD,List.getElem?_eq_getElem hi];exact h)
theorem idx_mem (l:List (List UInt8)) (s:List UInt8):decide (0≤idxS l s)=decide (s∈l):=by
  unfold idxS
  by_cases h:s∈l
  · rw [if_pos h,decide_eq_true h,decide_eq_true (by omega)]
  · rw [if_neg h,decide_eq_false h];rfl
theorem index_h (g:Nat) (l:List (List UInt8)) (s:List UInt8) (hl:l.length≤1000000):HFunD Tryz.prog 89 [.os 8001 g 0 l.length,strV s] [(8001,nmsO g l)] (intV (idxS l s)) [(8001,nmsO g l)]:=by
  intro c
  refine hfun_of Tryz.func89 rfl (by kernel_rfl) _ _ _ _ rfl 19 rfl rfl (fun X ok hX=>?_)
  refine srg fun N h1=>?_
  refine sa ?_
  refine snl h1 ?_
  refine hw_seq (fun Nh2 h2=>?_)
  refine srg fun N h3=>?_
  refine sm ?_
  first
  | refine hq_ 7 (hop_len_sl (T:=66) rfl (elOf_spec el_66).1 rfl) rfl rfl pre0 rfl rfl ?_
  | refine hq_ 7 (hop_len_os (T:=66) rfl (elOf_spec el_66).1 rfl) rfl rfl pre0 rfl rfl ?_
  | refine hq_ 7 (hop_len_nil (T:=66) rfl (elOf_spec el_66).1 rfl) rfl rfl pre0 rfl rfl ?_
  refine sm ?_
  refine snl h3 ?_
  refine hw_block ?_
  refine hw_loopc (α:=Nat) (fun x c=>⟨19,[(0,.v (.os 8001 g 0 l.length)),(1,.v (strV s)),(7,.v (intV l.length)),(8,.v (intV x))],[(8001,nmsO g l)],c⟩) (fun x=>x≤l.length∧∀ i,i < x→l.getD i []≠s) (fun x=>l.length - x) (0) (by exact ⟨Nat.zero_le _,fun i h=>absurd h (Nat.not_lt_zero _)⟩) (hsub_of rfl (Nat.le_refl _) (tsr rfl (tsr rfl (tsr rfl (tsr rfl TmSub.nil)))) (hsr rfl HpSub.nil)) (fun k c hx NhL4 hL4=>?_)
  (try dsimp only at hx hL4 ⊢)
  obtain ⟨hk,hE⟩:=hx
  refine srg fun N h5=>?_
  refine s0 (hop_lss rfl rfl) ?_
  refine snl h5 ?_
  refine hw_seq (fun Nh6 h6=>?_)
  refine wc (fun hc0=>?_) (fun hc0=>?_)
  · have hr0 := hc0; (try simp only [hcs, Int.reduceToNat] at hc0)
    refine hw_skip ?_
    refine h6 _ ?_
    refine hw_seq (fun Nh7 h7=>?_)
    refine hw_block ?_
    refine srg fun N h8=>?_
    refine sm ?_
    refine sa ?_
    refine snl h8 ?_
    refine srg fun N h9=>?_
    refine sm ?_
    refine sm ?_
    refine sm ?_
    first
    | refine hq_ 14 (hop_ia_sl el_66 rfl rfl (by first | exact Nat.le_of_ble_eq_true rfl | omega | (dsimp only;omega) | (simp <;> omega)) (by first | exact Nat.le_of_ble_eq_true rfl | omega | (dsimp only;omega) | (simp <;> omega)) (by first | exact Nat.le_of_ble_eq_true rfl | omega | (dsimp only;omega) | (simp <;> omega))) rfl rfl pre0 rfl rfl ?_
    | refine hq_ 14 (hol_ia_os el_66 rfl rfl (by first | exact Nat.le_of_ble_eq_true rfl | omega | (dsimp only;omega) | (simp <;> omega)) (by first | exact Nat.le_of_ble_eq_true rfl | omega | (dsimp only;omega) | (simp <;> omega))) rfl rfl (pre1 rfl) rfl rfl ?_
    first
    | refine hq_ 15 (HOp.val (v':=strV (l.getD k [])) (hol_load ty_9 rfl (by first | exact Nat.le_of_ble_eq_true rfl | omega | (dsimp only;omega) | (simp <;> omega)) (by first | exact Nat.le_of_ble_eq_true rfl | omega | (dsimp only;omega) | (simp <;> omega)) (fun h=>(by first | rfl | cases h))) (by simp only [Nat.zero_add];rfl)) rfl rfl (pre1 rfl) rfl rfl ?_
    | refine hq_ 15 (HOp.val (v':=strV (l.getD k [])) (hop_load_fp ty_9 rfl (by first | exact Nat.le_of_ble_eq_true rfl | omega | (dsimp only;omega) | (simp <;> omega)) (fun h=>(by first | rfl | cases h))) (by simp only [Nat.zero_add];rfl)) rfl rfl pre0 rfl rfl ?_
    refine s0 (hop_seq_l rfl rfl) ?_
    refine snl h9 ?_
    refine wc (fun hc1=>?_) (fun hc1=>?_)
    · have hr1 := hc1; (try simp only [hcs, Int.reduceToNat] at hc1)
      have hks:l.getD k []=s:=(by have h:=hr1;simpa [eq_comm] using h)
      refine srg fun N h10=>?_
      refine sm ?_
      refine sa ?_
      refine snl h10 ?_
      refine hw_ret ?_
      refine hq_block_ret ?_
      refine hq_then_ret ?_
      refine hq_then_ret ?_
      refine hq_block_ret ?_
      refine hq_then_ret ?_
      refine hf_retR1 ok hX RetS.one rfl (rval_tmp rfl) [] rfl pre0 (()) (trivial) (by rfl) (by rfl) (by rw [idx_of (by omega) hks hE];exact kza) ?_
      exact ⟨⟨_,rfl,okz_nms⟩,trivial⟩
    have hr1:=hc1;(try simp only [hcs,Int.reduceToNat] at hc1)
    refine hw_skip ?_
    refine hq_block ?_
    refine h7 _ ?_
    refine hw_region ?_
    first
    | refine hq_ 18 (hop_addi rfl rfl rfl (by first | exact Nat.le_of_ble_eq_true rfl | omega | (dsimp only;omega) | (simp <;> omega)) (by first | exact Nat.le_of_ble_eq_true rfl | omega | (dsimp only;omega) | (simp <;> omega))) rfl rfl pre0 rfl rfl ?_
    | refine hq_ 18 (hop_add rfl rfl) rfl rfl pre0 rfl rfl ?_
    refine sm ?_
    refine hseq_nil ?_
    exact hL4 (k+1) _ _ (by (try dsimp only);exact ⟨by omega,fun i hi=>by by_cases e:i=k;(· subst e;exact fun h=>by rw [h] at hr1;simp at hr1);exact hE i (by omega)⟩) (by (try dsimp only);omega) (hsub_of rfl (Nat.le_refl _) (tsr rfl (tsr rfl (tsr rfl (tsr rfl TmSub.nil)))) (hsr rfl HpSub.nil))
  have hr0:=hc0;(try simp only [hcs,Int.reduceToNat] at hc0)
  refine hw_exit ?_
  refine hq_then_exit ?_
  refine hq_then_exit ?_
  refine hq_block_here ?_
  refine h2 _ ?_
  refine srg fun N h11=>?_
  refine sa ?_
  refine snl h11 ?_
  refine hw_ret ?_
  refine hf_retR1 ok hX RetS.one rfl (rval_tmp rfl) [] rfl pre0 (()) (trivial) (by rfl) (by rfl) (by rw [idx_no (fun i hi=>hE i (by omega))];exact kza) ?_
  exact ⟨⟨_,rfl,okz_nms⟩,trivial⟩
theorem contains_h (g:Nat) (l:List (List UInt8)) (s:List UInt8) (hl:l.length≤1000000):HFunD Tryz.prog 65 [.os 8001 g 0 l.length,strV s] [(8001,nmsO g l)] (boolV (decide (s∈l))) [(8001,nmsO g l)]:=by
  intro c
  refine hfun_of Tryz.func65 rfl (by kernel_rfl) _ _ _ _ rfl 9 rfl rfl (fun X ok hX=>?_)
  refine srg fun N h1=>?_
  refine sa ?_
  refine snl h1 ?_
  refine srg fun N h2=>?_
  refine sm ?_
  refine sm ?_
  refine hf_callR 7 (xs:=[_,_]) (pre:=[(8001,_)]) (index_h g l s hl _) ⟨rfl,⟨rfl,trivial⟩⟩ (preC rfl pre0) rfl rfl (fun u c1 hx1=>?_)
  (try dsimp only)
  refine s0 (hop_geq rfl rfl) ?_
  refine sa ?_
  refine snl h2 ?_
  refine hw_ret ?_
  refine hf_retR1 ok hX RetS.one rfl (rval_tmp rfl) [] rfl pre0 (()) (trivial) (by rfl) (by rfl) (by rw [←idx_mem];exact kza) ?_
  exact ⟨⟨_,rfl,okz_nms⟩,trivial⟩
theorem okz_nmsn {kp sh:List (Nat×HObj)} {l o':List (List UInt8)} {x:List UInt8} {g n ty:Nat} {f:Nat→Nat→HV} (ho:l++[x]=o') (hn:n=l.length:=by rfl) (h0:f 0 0=strV x:=by rfl):OKz kp sh ⟨g,n+1,1,ty,0,cat n (nmsF l) f⟩ ⟨g,o'.length,1,ty,0,nmsF o'⟩:=by
  subst hn;subst ho
  refine ⟨rfl,by simp,rfl,rfl,Nat.le_refl _,fun i j hi hj=>.fz _ _ ?_,fun h=>absurd h (Nat.not_lt_zero _)⟩
  show Fz sh (cat l.length (nmsF l) f i j) (strV ((l++[x]).getD i []))
  by_cases h':i < l.length
  · rw [cat_lt h',getD_app h'];exact .imm _
  · have hi' : i = l.length := by simp only at hi; omega
    subst hi'
    obtain rfl:j=0:=by simp only at hj;omega
    rw [cat_ge (Nat.le_refl _),Nat.sub_self,getD_snoc,h0];exact .imm _
theorem add_h (c g g2:Nat) (l:List (List UInt8)) (s:List UInt8) (hl:l.length≤100000):HFun Tryz.prog 64 c [strV s,.pt 8002 g 0 0] [(8002,boxS g g2 l.length),(8001,nmsO g2 l)]
    (RetP (fun (_:Nat) _=>True) (fun _=>.tup 0 fun _=>default) (fun g'=>[(8002,boxS g g' (if s∈l then l else l++[s]).length),(8001,nmsO g' (if s∈l then l else l++[s]))])):=by
  refine hfun_of Tryz.func64 rfl (by kernel_rfl) _ _ _ _ rfl 11 rfl rfl (fun X ok hX=>?_)
  refine srg fun N h1=>?_
  first
  | refine hq_ 3 (hol_load ty_66 rfl (by first | exact Nat.le_of_ble_eq_true rfl | omega | (dsimp only;omega) | (simp <;> omega)) (by first | exact Nat.le_of_ble_eq_true rfl | omega | (dsimp only;omega) | (simp <;> omega)) (fun h=>(by first | rfl | cases h))) rfl rfl (pre1 rfl) rfl rfl ?_
  | refine hq_ 3 (hop_load_fp ty_66 rfl (by first | exact Nat.le_of_ble_eq_true rfl | omega | (dsimp only;omega) | (simp <;> omega)) (fun h=>(by first | rfl | cases h))) rfl rfl pre0 rfl rfl ?_
  refine sm ?_
  refine hq_ 5 (hop_funR (xs:=[_,_]) (pre:=[(8001,_)]) (contains_h g2 l s (by omega)) ⟨rfl,⟨rfl,trivial⟩⟩) rfl rfl (preC rfl pre0) rfl rfl ?_
  refine s0 (hop_not rfl) ?_
  refine snl h1 ?_
  refine wc (fun hc0=>?_) (fun hc0=>?_)
  · have hr0 := hc0; (try simp only [hcs, Int.reduceToNat] at hc0)
    have hns:¬ s∈l:=(by have h:=hr0;simpa using h)
    refine hw_region ?_
    first
    | refine hq_ 7 (hol_load ty_66 rfl (by first | exact Nat.le_of_ble_eq_true rfl | omega | (dsimp only;omega) | (simp <;> omega)) (by first | exact Nat.le_of_ble_eq_true rfl | omega | (dsimp only;omega) | (simp <;> omega)) (fun h=>(by first | rfl | cases h))) rfl rfl (pre1 rfl) rfl rfl ?_
    | refine hq_ 7 (hop_load_fp ty_66 rfl (by first | exact Nat.le_of_ble_eq_true rfl | omega | (dsimp only;omega) | (simp <;> omega)) (fun h=>(by first | rfl | cases h))) rfl rfl pre0 rfl rfl ?_
    refine sm ?_
    refine hm_1 9 (hop_buildSlice (id:=9) (hs:=[_]) ei_66 (by first | exact Nat.le_of_ble_eq_true rfl | omega | (dsimp only;omega) | (simp <;> omega)) rfl (by first | exact Nat.le_of_ble_eq_true rfl | omega | (dsimp only;omega) | (simp <;> omega)) ⟨rfl,rfl,rfl,rfl,trivial⟩) rfl rfl pre0 rfl rfl (c':=c+1) rfl ?_
    first
    | refine hm_1 10 (hol_append ei_66 (by first | exact Nat.le_of_ble_eq_true rfl | omega | (dsimp only;omega) | (simp <;> omega)) rfl (by first | exact Nat.le_of_ble_eq_true rfl | omega | (dsimp only;omega) | (simp <;> omega)) (by first | exact Nat.le_of_ble_eq_true rfl | omega | (dsimp only;omega) | (simp <;> omega)) (srl_os0 rfl (by first | exact Nat.le_of_ble_eq_true rfl | omega | (dsimp only;omega) | (simp <;> omega))) (by first | exact Nat.le_of_ble_eq_true rfl | omega | (dsimp only;omega) | (simp <;> omega)) rfl) rfl rfl (preC rfl (pre1 rfl)) rfl rfl (c':=c+2) rfl ?_
    | refine hm_1 10 (hol_append ei_66 (by first | exact Nat.le_of_ble_eq_true rfl | omega | (dsimp only;omega) | (simp <;> omega)) rfl (by first | exact Nat.le_of_ble_eq_true rfl | omega | (dsimp only;omega) | (simp <;> omega)) (by first | exact Nat.le_of_ble_eq_true rfl | omega | (dsimp only;omega) | (simp <;> omega)) (srl_os rfl (by first | exact Nat.le_of_ble_eq_true rfl | omega | (dsimp only;omega) | (simp <;> omega))) (by first | exact Nat.le_of_ble_eq_true rfl | omega | (dsimp only;omega) | (simp <;> omega)) rfl) rfl rfl (preC rfl (pre1 rfl)) rfl rfl (c':=c+2) rfl ?_
    | refine hm_1 10 (hol_append ei_66 (by first | exact Nat.le_of_ble_eq_true rfl | omega | (dsimp only;omega) | (simp <;> omega)) rfl (by first | exact Nat.le_of_ble_eq_true rfl | omega | (dsimp only;omega) | (simp <;> omega)) (by first | exact Nat.le_of_ble_eq_true rfl | omega | (dsimp only;omega) | (simp <;> omega)) (src_sl rfl) (by first | exact Nat.le_of_ble_eq_true rfl | omega | (dsimp only;omega) | (simp <;> omega)) rfl) rfl rfl (preC rfl pre0) rfl rfl (c':=c+2) rfl ?_
    | refine hm_1 10 (hol_append ei_66 (by first | exact Nat.le_of_ble_eq_true rfl | omega | (dsimp only;omega) | (simp <;> omega)) rfl (by first | exact Nat.le_of_ble_eq_true rfl | omega | (dsimp only;omega) | (simp <;> omega)) (by first | exact Nat.le_of_ble_eq_true rfl | omega | (dsimp only;omega) | (simp <;> omega)) (src_nil 1 (fun _ _=>default) rfl) (by first | exact Nat.le_of_ble_eq_true rfl | omega | (dsimp only;omega) | (simp <;> omega)) rfl) rfl rfl (preC rfl pre0) rfl rfl (c':=c+2) rfl ?_
    first
    | refine hm_s1 (hol_storeW ty_66 rfl rfl rfl rfl) rfl rfl (pre1 rfl) (c':=c+3) rfl ?_
    | refine hm_s1 (hol_store ty_66 rfl rfl rfl rfl (by first | exact Nat.le_of_ble_eq_true rfl | omega | (dsimp only;omega) | (simp <;> omega)) (by first | exact Nat.le_of_ble_eq_true rfl | omega | (dsimp only;omega) | (simp <;> omega)) (by first | exact Nat.le_of_ble_eq_true rfl | omega | (dsimp only;omega) | (simp <;> omega))) rfl rfl (pre1 rfl) (c':=c+3) rfl ?_
    refine hseq_nil ?_
    refine hq_fall ?_
    refine hf_retR0 ok hX RetS.one rfl  [] rfl pre0 ((c+1)) (trivial) (by rfl) (by rfl) (kza) ?_
    exact ⟨⟨_,rfl,(by exact okz1 (kz_os rfl rfl (by rw [if_neg hns];simp)))⟩,⟨⟨_,rfl,(by exact okz_nmsn (x:=s) (by rw [if_neg hns]))⟩,trivial⟩⟩
  have hr0:=hc0;(try simp only [hcs,Int.reduceToNat] at hc0)
  have hns:s∈l:=(by have h:=hr0;simpa using h)
  refine hw_skip ?_
  refine hq_fall ?_
  refine hf_retR0 ok hX RetS.one rfl  [] rfl pre0 (g2) (trivial) (by rfl) (by rfl) (kza) ?_
  exact ⟨⟨_,rfl,(by exact okz1 (kz_os rfl rfl (by rw [if_pos hns])))⟩,⟨⟨_,rfl,(by rw [if_pos hns];exact okz_nms)⟩,trivial⟩⟩
theorem names_take_add {e:List Pt} {i:Nat} (h:i < e.length) (hk:(e.getD i default).kind=1):namesV (e.take (i+1))=if (e.getD i default).name∈namesV (e.take i) then namesV (e.take i) else namesV (e.take i)++[(e.getD i default).name]:=by
  rw [names_take h]
  unfold addN
  by_cases hm:(e.getD i default).name∈namesV (e.take i)
  · rw [if_neg (fun h=>h.2 hm),if_pos hm]
  · rw [if_pos ⟨hk,hm⟩,if_neg hm]
theorem names_take_not {e:List Pt} {i:Nat} (h:i < e.length) (hk:¬ (e.getD i default).kind=1):namesV (e.take (i+1))=namesV (e.take i):=by
  rw [names_take h]
  unfold addN
  rw [if_neg (fun h=>hk h.1)]
theorem names_h (e:List Pt) (he:e.length≤100000):HPure Tryz.prog 34 [ptsV e] (nmsV (namesV e)):=by
  have hnl:=fun i=>names_len (e:=e) i
  refine hpure_of Tryz.func34 rfl (by kernel_rfl) _ _ _ rfl 23 rfl rfl (fun w F=>?_)
  refine srg fun N h1=>?_
  refine sa ?_
  refine snl h1 ?_
  refine srg fun N h2=>?_
  refine hm_1 3 (hop_alloc (id:=8002) (sz:=1) zc_66 rfl rfl (by decide) (by decide)) rfl rfl pre0 rfl rfl (c':=1) rfl ?_
  refine snl h2 ?_
  refine hw_seq (fun Nh3 h3=>?_)
  refine (hsub_ownc 8002 0 8001 1 9 (nmsF []) (fun _ _=>.os 8001 1 0 0) rfl rfl (fun j hj=>.inl ⟨by omega,rfl⟩) (by decide) (by decide) (c':=2) rfl).wp ?_
  refine hw_region ?_
  refine s0 (hop_makeFunc (hs:=[_]) ⟨rfl,trivial⟩) ?_
  refine sa ?_
  refine snl h3 ?_
  refine hw_seq (fun Nh4 h4=>?_)
  refine srg fun N h5=>?_
  refine sm ?_
  first
  | refine hq_ 9 (hop_len_sl (T:=24) rfl (elOf_spec el_24).1 rfl) rfl rfl pre0 rfl rfl ?_
  | refine hq_ 9 (hop_len_os (T:=24) rfl (elOf_spec el_24).1 rfl) rfl rfl pre0 rfl rfl ?_
  | refine hq_ 9 (hop_len_nil (T:=24) rfl (elOf_spec el_24).1 rfl) rfl rfl pre0 rfl rfl ?_
  refine sm ?_
  refine snl h5 ?_
  refine hw_block ?_
  refine hw_loopc (α:=Nat×Nat) (fun x c=>⟨23,[(3,.v (.pt 8002 0 0 0)),(4,.v (.fn (.func 64) 1 (fun q=>[HV.pt 8002 0 0 0].getD q default))),(8,.v (ptsV e)),(9,.v (intV e.length)),(10,.v (intV x.1))],[(8002,boxS 0 x.2 (namesV (e.take x.1)).length),(8001,nmsO x.2 (namesV (e.take x.1)))],c⟩) (fun x=>x.1≤e.length) (fun x=>e.length - x.1) ((0,1)) (by exact Nat.zero_le _) (hsub_of rfl (Nat.le_refl _) (tsr rfl (tsr rfl (tsr rfl (tsr rfl (tsr rfl TmSub.nil))))) (hsr rfl (hsr rfl HpSub.nil))) (fun x c hx NhL6 hL6=>?_)
  revert hx hL6;obtain ⟨i,g⟩:=x;intro hx hL6;dsimp only at hx hL6 ⊢
  refine srg fun N h7=>?_
  refine s0 (hop_lss rfl rfl) ?_
  refine snl h7 ?_
  refine hw_seq (fun Nh8 h8=>?_)
  refine wc (fun hc0=>?_) (fun hc0=>?_)
  · have hr0 := hc0; (try simp only [hcs, Int.reduceToNat] at hc0)
    have hil:i < e.length:=(by omega);have hnli:=hnl i
    refine hw_skip ?_
    refine h8 _ ?_
    refine hw_seq (fun Nh9 h9=>?_)
    refine hw_block ?_
    refine srg fun N h10=>?_
    first
    | refine hq_ 12 (hop_ia_sl el_24 rfl rfl (by first | exact Nat.le_of_ble_eq_true rfl | omega | (dsimp only;omega) | (simp <;> omega)) (by first | exact Nat.le_of_ble_eq_true rfl | omega | (dsimp only;omega) | (simp <;> omega)) (by first | exact Nat.le_of_ble_eq_true rfl | omega | (dsimp only;omega) | (simp <;> omega))) rfl rfl pre0 rfl rfl ?_
    | refine hq_ 12 (hol_ia_os el_24 rfl rfl (by first | exact Nat.le_of_ble_eq_true rfl | omega | (dsimp only;omega) | (simp <;> omega)) (by first | exact Nat.le_of_ble_eq_true rfl | omega | (dsimp only;omega) | (simp <;> omega))) rfl rfl (pre1 rfl) rfl rfl ?_
    first
    | refine hq_ 13 (hol_load ty_29 rfl (by first | exact Nat.le_of_ble_eq_true rfl | omega | (dsimp only;omega) | (simp <;> omega)) (by first | exact Nat.le_of_ble_eq_true rfl | omega | (dsimp only;omega) | (simp <;> omega)) (fun h=>(by first | rfl | cases h))) rfl rfl (pre1 rfl) rfl rfl ?_
    | refine hq_ 13 (hop_load_fp ty_29 rfl (by first | exact Nat.le_of_ble_eq_true rfl | omega | (dsimp only;omega) | (simp <;> omega)) (fun h=>(by first | rfl | cases h))) rfl rfl pre0 rfl rfl ?_
    refine hm_1 6 (hop_alloc (id:=6) (sz:=5) zc_29 rfl rfl (by first | exact Nat.le_of_ble_eq_true rfl | omega | (dsimp only;omega) | (simp <;> omega)) (by first | exact Nat.le_of_ble_eq_true rfl | omega | (dsimp only;omega) | (simp <;> omega))) rfl rfl pre0 rfl rfl (c':=c+1) rfl ?_
    first
    | refine hm_s1 (hol_storeW ty_29 rfl rfl rfl rfl) rfl rfl (pre1 rfl) (c':=c+2) rfl ?_
    | refine hm_s1 (hol_store ty_29 rfl rfl rfl rfl (by first | exact Nat.le_of_ble_eq_true rfl | omega | (dsimp only;omega) | (simp <;> omega)) (by first | exact Nat.le_of_ble_eq_true rfl | omega | (dsimp only;omega) | (simp <;> omega)) (by first | exact Nat.le_of_ble_eq_true rfl | omega | (dsimp only;omega) | (simp <;> omega))) rfl rfl (pre1 rfl) (c':=c+2) rfl ?_
    refine snl h10 ?_
    refine srg fun N h11=>?_
    first
    | refine hq_ 14 (hop_fa fd_29_0 rfl) rfl rfl pre0 rfl rfl ?_
    | refine hq_ 14 (hop_fa_fp fd_29_0 rfl (by first | exact Nat.le_of_ble_eq_true rfl | omega | (dsimp only;omega) | (simp <;> omega))) rfl rfl pre0 rfl rfl ?_
    first
    | refine hq_ 15 (HOp.val (v':=intV (e.getD i default).kind) (hol_load ty_3 rfl (by first | exact Nat.le_of_ble_eq_true rfl | omega | (dsimp only;omega) | (simp <;> omega)) (by first | exact Nat.le_of_ble_eq_true rfl | omega | (dsimp only;omega) | (simp <;> omega)) (fun h=>(by first | rfl | cases h))) (rfl)) rfl rfl (pre1 rfl) rfl rfl ?_
    | refine hq_ 15 (HOp.val (v':=intV (e.getD i default).kind) (hop_load_fp ty_3 rfl (by first | exact Nat.le_of_ble_eq_true rfl | omega | (dsimp only;omega) | (simp <;> omega)) (fun h=>(by first | rfl | cases h))) (rfl)) rfl rfl pre0 rfl rfl ?_
    refine s0 (hop_eql rfl rfl) ?_
    refine snl h11 ?_
    refine wc (fun hc1=>?_) (fun hc1=>?_)
    · have hr1 := hc1; (try simp only [hcs, Int.reduceToNat] at hc1)
      refine hw_region ?_
      refine sm ?_
      first
      | refine hq_ 18 (hop_fa fd_29_3 rfl) rfl rfl pre0 rfl rfl ?_
      | refine hq_ 18 (hop_fa_fp fd_29_3 rfl (by first | exact Nat.le_of_ble_eq_true rfl | omega | (dsimp only;omega) | (simp <;> omega))) rfl rfl pre0 rfl rfl ?_
      first
      | refine hq_ 19 (HOp.val (v':=strV (e.getD i default).name) (hol_load ty_9 rfl (by first | exact Nat.le_of_ble_eq_true rfl | omega | (dsimp only;omega) | (simp <;> omega)) (by first | exact Nat.le_of_ble_eq_true rfl | omega | (dsimp only;omega) | (simp <;> omega)) (fun h=>(by first | rfl | cases h))) (rfl)) rfl rfl (pre1 rfl) rfl rfl ?_
      | refine hq_ 19 (HOp.val (v':=strV (e.getD i default).name) (hop_load_fp ty_9 rfl (by first | exact Nat.le_of_ble_eq_true rfl | omega | (dsimp only;omega) | (simp <;> omega)) (fun h=>(by first | rfl | cases h))) (rfl)) rfl rfl pre0 rfl rfl ?_
      refine hf_callVR 20 (xs:=[_]) (cs:=[_]) (pre:=[(8002,_),(8001,_)]) (add_h _ 0 g (namesV (e.take i)) (e.getD i default).name (by omega)) rfl rfl (fun i hi=>by first | rfl | (rcases i with _ | i <;> first | rfl | (exact absurd hi (by omega)) | (simp at hi))) ⟨rfl,trivial⟩ (preC rfl (preC rfl pre0)) rfl rfl (fun g3 c1 hx1=>?_)
      (try dsimp only)
      refine hseq_nil ?_
      refine hq_block ?_
      refine h9 _ ?_
      refine hw_region ?_
      first
      | refine hq_ 21 (hop_addi rfl rfl rfl (by first | exact Nat.le_of_ble_eq_true rfl | omega | (dsimp only;omega) | (simp <;> omega)) (by first | exact Nat.le_of_ble_eq_true rfl | omega | (dsimp only;omega) | (simp <;> omega))) rfl rfl pre0 rfl rfl ?_
      | refine hq_ 21 (hop_add rfl rfl) rfl rfl pre0 rfl rfl ?_
      refine sm ?_
      refine hseq_nil ?_
      exact hL6 ((i+1,g3)) _ _ (by (try dsimp only);omega) (by (try dsimp only);omega) (hsub_of rfl (Nat.le_refl _) (tsr rfl (tsr rfl (tsr rfl (tsr rfl (tsr rfl TmSub.nil))))) (HpSub.cons rfl (by dsimp only;rw [names_take_add hil hc1];exact .refl _) (HpSub.cons rfl (by dsimp only;rw [names_take_add hil hc1];exact .refl _) HpSub.nil)))
    have hr1:=hc1;(try simp only [hcs,Int.reduceToNat] at hc1)
    refine hw_skip ?_
    refine hq_block ?_
    refine h9 _ ?_
    refine hw_region ?_
    first
    | refine hq_ 21 (hop_addi rfl rfl rfl (by first | exact Nat.le_of_ble_eq_true rfl | omega | (dsimp only;omega) | (simp <;> omega)) (by first | exact Nat.le_of_ble_eq_true rfl | omega | (dsimp only;omega) | (simp <;> omega))) rfl rfl pre0 rfl rfl ?_
    | refine hq_ 21 (hop_add rfl rfl) rfl rfl pre0 rfl rfl ?_
    refine sm ?_
    refine hseq_nil ?_
    exact hL6 ((i+1,g)) _ _ (by (try dsimp only);omega) (by (try dsimp only);omega) (hsub_of rfl (Nat.le_refl _) (tsr rfl (tsr rfl (tsr rfl (tsr rfl (tsr rfl TmSub.nil))))) (HpSub.cons rfl (by dsimp only;rw [names_take_not hil hc1];exact .refl _) (HpSub.cons rfl (by dsimp only;rw [names_take_not hil hc1];exact .refl _) HpSub.nil)))
  have hr0:=hc0;(try simp only [hcs,Int.reduceToNat] at hc0)
  refine hw_exit ?_
  refine hq_then_exit ?_
  refine hq_then_exit ?_
  refine hq_block_here ?_
  refine h4 _ ?_
  refine hw_seq (fun Nh12 h12=>?_)
  obtain rfl:i=e.length:=(by omega)
  refine hw_region ?_
  first
  | refine hq_ 22 (hol_load ty_66 rfl (by first | exact Nat.le_of_ble_eq_true rfl | omega | (dsimp only;omega) | (simp <;> omega)) (by first | exact Nat.le_of_ble_eq_true rfl | omega | (dsimp only;omega) | (simp <;> omega)) (fun h=>(by first | rfl | cases h))) rfl rfl (pre1 rfl) rfl rfl ?_
  | refine hq_ 22 (hop_load_fp ty_66 rfl (by first | exact Nat.le_of_ble_eq_true rfl | omega | (dsimp only;omega) | (simp <;> omega)) (fun h=>(by first | rfl | cases h))) rfl rfl pre0 rfl rfl ?_
  refine sa ?_
  refine snl h12 ?_
  refine hw_ret ?_
  refine hq_ret1 rfl (rval_tmp rfl) [(8001,_)] rfl (preC rfl pre0) ?_
  rw [List.take_length];exact fz_row (l:=namesV e) (enc:=fun x _=>strV x) (d:=[]) (List.mem_cons_self ..) rfl rfl (Nat.le_refl _) (fun i j _ _=>.imm _)
structure MeanOk (mf:FuncId) (mk:Nat) (mcaps:Nat→HV) (mcs:List HV) (m:List UInt8→Bag):Prop where
  len:mcs.length=mk
  cap:∀ i,i < mk→mcs[i]?=some (mcaps i)
  fz:FzAll [] mcs mcs
  ff:∀ sh,Fz sh (.fn (.func mf) mk mcaps) (.fn (.func mf) mk mcaps)
  h:∀ s,nameV s=true→HPure Tryz.prog mf ([strV s]++mcs) (bagH (m s))
  ok:∀ s,(m s).ok
section
variable {mf:FuncId} {mk:Nat} {mcaps:Nat→HV} {mcs:List HV} {m:List UInt8→Bag}
mutual
theorem layN_h (M:MeanOk mf mk mcaps mcs m) (e:List Pt) (he:e.length≤100000):∀ (t:T) (b:Nat),t.ok=true→AtP e b (T.flat b t)→LayN (.fn (.func mf) mk mcaps) m e b t
  | .name s,b,hok,hat=>lay_one mf mk mcaps mcs M.len M.cap M.fz M.ff m M.h M.ok e he b (.name s) hok hat (Nat.zero_le _) (fun i hi=>absurd hi (Nat.not_lt_zero _))
  | .times lo hi t, b, hok, hat => by
    have hok':t.ok=true:=by simp only [T.ok,Bool.and_eq_true] at hok;exact hok.2
    refine lay_one mf mk mcaps mcs M.len M.cap M.fz M.ff m M.h M.ok e he b (.times lo hi t) hok hat (by simp [T.kidsT]) (fun i hi=>?_)
    obtain rfl:i=0:=by simpa [T.kidsT] using hi
    have:=layN_h M e he t b hok' (by simp only [T.flat] at hat;exact atP_left hat)
    simpa [T.kidsT,T.sizeL] using this
  | .many k ts, b, hok, hat => by
    have hok':T.okL ts=true:=by simp only [T.ok,Bool.and_eq_true] at hok;exact hok.2
    have hkl:(T.many k ts).kidsT.length≤100000:=by
      have:=kids_few2 (t:=.many k ts);have:=(at_top hat).2;omega
    exact lay_one mf mk mcaps mcs M.len M.cap M.fz M.ff m M.h M.ok e he b (.many k ts) hok hat hkl (fun i hi=>layNL_h M e he ts hok' i hi _ (kids_at' hat hi))
theorem layNL_h (M:MeanOk mf mk mcaps mcs m) (e:List Pt) (he:e.length≤100000):∀ ts:List T,T.okL ts=true→∀ i,i < ts.length→∀ b,AtP e b (T.flat b (ts.getD i default))→LayN (.fn (.func mf) mk mcaps) m e b (ts.getD i default)
  | [],_,i,hi=>absurd hi (Nat.not_lt_zero _)
  | t :: ts, hok, i, hi => fun b hat => by
    simp only [T.okL,Bool.and_eq_true] at hok
    cases i with
    | zero=>exact layN_h M e he t b hok.1 hat
    | succ i=>exact layNL_h M e he ts hok.2 i (by simpa using hi) b (by simpa using hat)
end
end
deriving instance DecidableEq for Bag
theorem run_eqarr (w:World) (a0 a1 a2 a3 b0 b1 b2 b3:Nat) (d:Nat):(Op.equalIn (d+2) 31 (.agg #[.int .u64 a0,.int .u64 a1,.int .u64 a2,.int .u64 a3]) (.agg #[.int .u64 b0,.int .u64 b1,.int .u64 b2,.int .u64 b3])).run Tryz.prog w=.ok (decide (a0=b0∧a1=b1∧a2=b2∧a3=b3)) w:=by
  unfold Op.equalIn
  simp only [Sem.run_bind,run_underlying Tryz.underlying31,Result.andThen_ok]
  simp [List.range',part,go_sem]
  simp only [Int.natCast_inj]
  by_cases h0:a0=b0 <;> by_cases h1:a1=b1 <;> by_cases h2:a2=b2 <;> by_cases h3:a3=b3 <;> simp [h0,h1,h2,h3]
theorem run_eqbag (w:World) (s t:Bag) (d:Nat):(Op.equalIn (d+3) 33 (.agg s.cells.toArray) (.agg t.cells.toArray)).run Tryz.prog w=.ok (decide (s=t)) w:=by
  simp [Bag.cells,go_sem]
  rw [run_eqarr]
  simp only [Result.andThen_ok]
  cases s;cases t
  simp only [Bag.mk.injEq]
  split <;> simp_all
theorem bag_inv4 {w:World} {E:Env} {v:Value} {x:Bag} {f:Nat→HV} (hf:∀ j,j < 4→f j=bagF x j) (h:Rep w E v (.agg 4 f)):v=.agg x.cells.toArray:=by
  refine bag_inv (w:=w) (E:=E) ?_
  cases h with
  | agg cs _ _ vs hn hv h=>exact .agg cs 4 _ vs hn hv (fun i hi=>by rw [←hf i hi];exact h i hi)
section
variable {ov:Nat→Option HV} {g:Nat} {d:Option Tmp} {ty:TypeId} {pos:String} {af:Array Edge} {gd:Option (Nat×Bool)} {T yT:TypeId} {x y:Operand}
theorem hop_eql_bag (s t:Bag) {f1 f2:Nat→HV} (hT:T=33) (h1:ovl ov x=some (.agg 4 f1)) (h2:ovl ov y=some (.agg 4 f2)) (hf1:∀ j,j < 4→f1 j=bagF s j) (hf2:∀ j,j < 4→f2 j=bagF t j) :
    HOp Tryz.prog ⟨d,.binOp .eql T x y yT,ty,pos,af,gd⟩ ov g [] (.imm (.bool (decide (s=t)))) [] :=
  hop_pure fun w E ρ hr=>by
    have hG:Tryz.prog.eqGuardType Tryz.prog.depth 33=false:=by kernel_rfl
    subst hT
    have e1:=bag_inv4 hf1 (hr x _ (by simp [Op.operands]) h1)
    have e2:=bag_inv4 hf2 (hr y _ (by simp [Op.operands]) h2)
    refine ⟨_,?_,.imm _⟩
    have hg:(eqGuard .eql 33 x y (.agg s.cells.toArray) (.agg t.cells.toArray)).run Tryz.prog w=.ok () w:=by
      simp [eqGuard,program,Sem.run,hG,Sem.run_bind]
    have hT:(binOp .eql 33 (.agg s.cells.toArray) (.agg t.cells.toArray)).run Tryz.prog w=.ok (.bool (decide (s=t))) w:=by
      simp only [run_eql_struct,run_eqbag w s t 9997,Result.andThen_ok]
    simp only [execOp,e1,e2,Sem.run_bind,hg,Result.andThen_ok,hT,Sem.run_pure]
theorem hop_neq_bag (s t:Bag) {f1 f2:Nat→HV} (hT:T=33) (h1:ovl ov x=some (.agg 4 f1)) (h2:ovl ov y=some (.agg 4 f2)) (hf1:∀ j,j < 4→f1 j=bagF s j) (hf2:∀ j,j < 4→f2 j=bagF t j) :
    HOp Tryz.prog ⟨d,.binOp .neq T x y yT,ty,pos,af,gd⟩ ov g [] (.imm (.bool (!decide (s=t)))) [] :=
  hop_pure fun w E ρ hr=>by
    have hG:Tryz.prog.eqGuardType Tryz.prog.depth 33=false:=by kernel_rfl
    subst hT
    have e1:=bag_inv4 hf1 (hr x _ (by simp [Op.operands]) h1)
    have e2:=bag_inv4 hf2 (hr y _ (by simp [Op.operands]) h2)
    refine ⟨_,?_,.imm _⟩
    have hg:(eqGuard .neq 33 x y (.agg s.cells.toArray) (.agg t.cells.toArray)).run Tryz.prog w=.ok () w:=by
      simp [eqGuard,program,Sem.run,hG,Sem.run_bind]
    have hT:(binOp .neq 33 (.agg s.cells.toArray) (.agg t.cells.toArray)).run Tryz.prog w=.ok (.bool (!decide (s=t))) w:=by
      simp only [run_neq_struct,run_eqbag w s t 9997,Result.andThen_ok]
    simp only [execOp,e1,e2,Sem.run_bind,hg,Result.andThen_ok,hT,Sem.run_pure]
end
section
variable {mf:FuncId} {mk:Nat} {mcaps:Nat→HV} {mcs:List HV} {m:List UInt8→Bag}
theorem new1_h (M:MeanOk mf mk mcaps mcs m) (s:List UInt8) (hs:nameV s=true):HPure Tryz.prog 35 ([strV s]++[.fp 1 (fun _=>.fn (.func mf) mk mcaps)]) (boolV (decide (m s=Bag.zero))):=by
  show HPure _ _ [strV s,.fp 1 (fun _=>.fn (.func mf) mk mcaps)] _
  refine hpure_of Tryz.func35 rfl (by kernel_rfl) _ _ _ rfl 9 rfl rfl (fun w F=>?_)
  refine srg fun N h1=>?_
  refine sa ?_
  refine snl h1 ?_
  refine srg fun N h2=>?_
  refine s0 (hop_load_fp ty_35 rfl (nb rfl) (fun h=>(by rfl))) ?_
  refine sm ?_
  refine s0 (hop_callv0 (xs:=[_]) (cs:=mcs) (M.h s hs) rfl M.len M.cap ⟨rfl,trivial⟩ ⟨(show Fz [] (strV s) (strV s) from Frz.fz),M.fz⟩) ?_
  refine s0 (hop_build (hs:=[]) st_33 rfl rfl trivial) ?_
  refine s0 (hop_eql_bag (m s) Bag.zero rfl rfl rfl (by exact j4 rfl rfl rfl rfl) (by exact j4 rfl rfl rfl rfl)) ?_
  refine sa ?_
  refine snl h2 ?_
  refine hw_ret ?_
  refine hq_ret1 rfl (rval_tmp rfl) [] rfl pre0 ?_
  exact Frz.fz
theorem getD_i {l:List (List UInt8)} {i:Nat} (h:i < l.length):l.getD i []=l[i]:=by rw [List.getD_eq_getElem?_getD,List.getElem?_eq_getElem h];rfl
theorem fidx_some {q:List UInt8→Bool} {l:List (List UInt8)} {i:Nat} (hi:i < l.length) (h:q (l.getD i [])=true) (hno:∀ j,j < i→q (l.getD j [])=false):l.findIdx? q=some i:=by
  rw [List.findIdx?_eq_some_iff_getElem]
  refine ⟨hi,by rw [←getD_i hi];exact h,fun j hj=>?_⟩
  rw [←getD_i (by omega:j < l.length),hno j hj];simp
theorem fidx_none {q:List UInt8→Bool} {l:List (List UInt8)} (hno:∀ j,j < l.length→q (l.getD j [])=false):l.findIdx? q=none:=by
  rw [List.findIdx?_eq_none_iff]
  intro x hx
  obtain ⟨j,hj,rfl⟩:=List.mem_iff_getElem.1 hx
  rw [←getD_i hj];exact hno j hj
theorem fidx_any (q:List UInt8→Bool) (l:List (List UInt8)):decide ((match l.findIdx? q with | some i=>(i:Int) | none=>-1)≥0)=l.any q:=by
  cases h:l.findIdx? q with
  | none =>
    rw [List.findIdx?_eq_none_iff] at h
    simp only
    have:l.any q=false:=by rw [List.any_eq_false];intro x hx;rw [h x hx];simp
    rw [this];rfl
  | some i =>
    rw [List.findIdx?_eq_some_iff_getElem] at h
    obtain ⟨hi,hq,_⟩:=h
    have:l.any q=true:=List.any_eq_true.2 ⟨l[i],List.getElem_mem hi,hq⟩
    rw [this]
    simp
theorem indexf_h (f:FuncId) (k:Nat) (caps:Nat→HV) (cs:List HV) (q:List UInt8→Bool) (hk:cs.length=k) (hi:∀ i,i < k→cs[i]?=some (caps i)) (hz:FzAll [] cs cs) (l:List (List UInt8)) (hl:l.length≤1000000) (hq:∀ s∈l,HPure Tryz.prog f ([strV s]++cs) (boolV (q s))) :
    HPure Tryz.prog 63 [nmsV l,.fn (.func f) k caps] (intV (match l.findIdx? q with | some i=>(i:Int) | none=>-1)):=by
  refine hpure_of Tryz.func63 rfl (by kernel_rfl) _ _ _ rfl 19 rfl rfl (fun w F=>?_)
  refine srg fun N h1=>?_
  refine sa ?_
  refine snl h1 ?_
  refine hw_seq (fun Nh2 h2=>?_)
  refine srg fun N h3=>?_
  refine sm ?_
  refine s0 (hop_len_sl (T:=66) rfl (elOf_spec el_66).1 rfl) ?_
  refine sm ?_
  refine snl h3 ?_
  refine hw_block ?_
  refine hw_loopc (α:=Nat) (fun x c=>⟨19,[(0,.v (nmsV l)),(1,.v (.fn (.func f) k caps)),(7,.v (intV l.length)),(8,.v (intV (x:Int)))],[],c⟩) (fun x=>x≤l.length∧∀ j,j < x→q (l.getD j [])=false) (fun x=>l.length - x) (0) (by exact ⟨Nat.zero_le _,fun j hj=>absurd hj (Nat.not_lt_zero _)⟩) (hsub_of rfl (Nat.le_refl _) (tsr rfl (tsr rfl (tsr rfl (tsr rfl TmSub.nil)))) HpSub.nil) (fun i c hx NhL4 hL4=>?_)
  (try dsimp only at hx hL4 ⊢)
  obtain ⟨hil,hno⟩:=hx
  refine srg fun N h5=>?_
  refine s0 (hop_lss rfl rfl) ?_
  refine snl h5 ?_
  refine hw_seq (fun Nh6 h6=>?_)
  refine wc (fun hc0=>?_) (fun hc0=>?_)
  · have hr0 := hc0; (try simp only [hcs, Int.reduceToNat] at hc0)
    refine hw_skip ?_
    refine h6 _ ?_
    refine hw_seq (fun Nh7 h7=>?_)
    refine hw_block ?_
    refine srg fun N h8=>?_
    refine sm ?_
    refine sa ?_
    refine snl h8 ?_
    refine srg fun N h9=>?_
    refine sm ?_
    refine sm ?_
    refine sm ?_
    refine s0 (hop_ia_sl el_66 rfl rfl (by omega) (by omega) (nb rfl)) ?_
    refine s0 (hop_load_fp ty_9 rfl (nb rfl) (fun h=>(by rfl))) ?_
    refine s0 (hop_callv0 (xs:=[_]) (cs:=cs) (hq (l.getD i []) (by rw [getD_i (by omega)];exact List.getElem_mem _)) rfl hk hi ⟨rfl,trivial⟩ ⟨(show Fz [] (strV (l.getD i [])) (strV (l.getD i [])) from Frz.fz),hz⟩) ?_
    refine snl h9 ?_
    refine wc (fun hc1=>?_) (fun hc1=>?_)
    · have hr1 := hc1; (try simp only [hcs, Int.reduceToNat] at hc1)
      refine srg fun N h10=>?_
      refine sm ?_
      refine sa ?_
      refine snl h10 ?_
      refine hw_ret ?_
      refine hq_block_ret ?_
      refine hq_then_ret ?_
      refine hq_then_ret ?_
      refine hq_block_ret ?_
      refine hq_then_ret ?_
      refine hq_ret1 rfl (rval_tmp rfl) [] rfl pre0 ?_
      rw [fidx_some (by omega) hc1 hno];exact .imm _
    have hr1:=hc1;(try simp only [hcs,Int.reduceToNat] at hc1)
    refine hw_skip ?_
    refine hq_block ?_
    refine h7 _ ?_
    refine hw_region ?_
    refine s0 (hop_addi rfl rfl rfl (by omega) (by omega)) ?_
    refine sm ?_
    refine hseq_nil ?_
    exact hL4 (i+1) _ _ (by (try dsimp only);exact ⟨by omega,fun j hj=>by rcases Nat.lt_or_ge j i with h | h;exact hno j h;obtain rfl:j=i:=(by omega);exact hc1⟩) (by (try dsimp only);omega) (hsub_of rfl (Nat.le_refl _) (tsr rfl (tsr rfl (tsr rfl (tsr rfl TmSub.nil)))) HpSub.nil)
  have hr0:=hc0;(try simp only [hcs,Int.reduceToNat] at hc0)
  refine hw_exit ?_
  refine hq_then_exit ?_
  refine hq_then_exit ?_
  refine hq_block_here ?_
  refine h2 _ ?_
  refine srg fun N h11=>?_
  refine sa ?_
  refine snl h11 ?_
  refine hw_ret ?_
  refine hq_ret1 rfl (rval_tmp rfl) [] rfl pre0 ?_
  rw [fidx_none (fun j hj=>hno j (by omega))];exact .imm _
theorem containsf_h (f:FuncId) (k:Nat) (caps:Nat→HV) (cs:List HV) (q:List UInt8→Bool) (hk:cs.length=k) (hi:∀ i,i < k→cs[i]?=some (caps i)) (hz:FzAll [] cs cs) (hff:∀ sh,Fz sh (.fn (.func f) k caps) (.fn (.func f) k caps)) (l:List (List UInt8)) (hl:l.length≤1000000) (hq:∀ s∈l,HPure Tryz.prog f ([strV s]++cs) (boolV (q s))) :
    HPure Tryz.prog 33 [nmsV l,.fn (.func f) k caps] (boolV (l.any q)):=by
  refine hpure_of Tryz.func33 rfl (by kernel_rfl) _ _ _ rfl 9 rfl rfl (fun w F=>?_)
  refine srg fun N h1=>?_
  refine sa ?_
  refine snl h1 ?_
  refine srg fun N h2=>?_
  refine sm ?_
  refine sm ?_
  refine s0 (hop_call0 (xs:=[_,_]) (indexf_h f k caps cs q hk hi hz l hl hq) ⟨rfl,⟨rfl,trivial⟩⟩ ⟨(Fz.eq rfl),⟨(hff _),trivial⟩⟩) ?_
  refine s0 (hop_geq rfl rfl) ?_
  refine sa ?_
  refine snl h2 ?_
  refine hw_ret ?_
  refine hq_ret1 rfl (rval_tmp rfl) [] rfl pre0 ?_
  rw [←fidx_any];exact .imm _
end
def netQ (w:Nat) (on:List Bag) (β:Nat→Bag) (p:Pc):Nat→HV:=fun j=>match j with
  | 0=>.sl 4 w (rowF (onF on)) | 1=>.sl 4 w (rowF β)
  | 2=>bagF p.first 0 | 3=>bagF p.first 1 | 4=>bagF p.first 2 | 5=>bagF p.first 3
  | 6=>bagF p.ends 0 | 7=>bagF p.ends 1 | 8=>bagF p.ends 2 | 9=>bagF p.ends 3
  | _=>boolV p.empty
@[reducible] def netP (w:Nat) (on:List Bag) (β:Nat→Bag) (p:Pc):HV:=.fp 11 (netQ w on β p)
@[reducible] def noNet (e:Int):HV:=t2 (.imm (.pointer none)) (intV e)
@[reducible] def treeNet (m:List UInt8→Bag) (t:T):HV:=netP (0+t.w) (lay m t 0).on (links (fun _=>Bag.zero) (lay m t 0).lk) (lay m t 0).pc
theorem j11 {P:Nat→Prop} (h0:P 0) (h1:P 1) (h2:P 2) (h3:P 3) (h4:P 4) (h5:P 5) (h6:P 6) (h7:P 7) (h8:P 8) (h9:P 9) (h10:P 10):∀ j,j < 11→P j:=fun j hj=>by
  match j,hj with | 0,_=>exact h0 | 1,_=>exact h1 | 2,_=>exact h2 | 3,_=>exact h3 | 4,_=>exact h4 | 5,_=>exact h5 | 6,_=>exact h6 | 7,_=>exact h7 | 8,_=>exact h8 | 9,_=>exact h9 | 10,_=>exact h10
def noneV (m:List UInt8→Bag) (e:List Pt):Bool:=(namesV e).any (fun s=>decide (m s=Bag.zero))
inductive NewIs (m:List UInt8→Bag) (e:List Pt):HV→Prop
  | bad (h:rightV e=false):NewIs m e (noNet 1)
  | none (h:rightV e=true) (h2:noneV m e=true):NewIs m e (noNet 6)
  | nil (h:e=[]):NewIs m e (t2 (netP 0 [] (fun _=>Bag.zero) ⟨Bag.zero,Bag.zero,true⟩) (intV 0))
  | full (t:T) (hok:t.ok=true) (h:e=T.flat 0 t) (h2:noneV m e=false) (hw:256 < t.w):NewIs m e (noNet 7)
  | fine (t:T) (hok:t.ok=true) (h:e=T.flat 0 t) (h2:noneV m e=false) (hw:t.w≤256):NewIs m e (t2 (treeNet m t) (intV 0))
theorem right_nil:rightV []=true:=by decide +kernel
theorem newIs_bad {m:List UInt8→Bag} {e:List Pt} {r:HV} (hr:NewIs m e r) (h:rightV e=false):r=noNet 1:=by
  cases hr with
  | bad=>rfl
  | none h' _=>rw [h] at h';cases h'
  | nil h'=>subst h';rw [right_nil] at h;cases h
  | full t hok h'=>subst h';rw [right_of_ok hok] at h;cases h
  | fine t hok h'=>subst h';rw [right_of_ok hok] at h;cases h
theorem newIs_none {m:List UInt8→Bag} {e:List Pt} {r:HV} (hr:NewIs m e r) (h:rightV e=true) (h2:noneV m e=true):r=noNet 6:=by
  cases hr with
  | bad h'=>rw [h] at h';cases h'
  | none=>rfl
  | nil h'=>subst h';cases h2
  | full t _ _ h'=>rw [h2] at h';cases h'
  | fine t _ _ h'=>rw [h2] at h';cases h'
theorem newIs_nil {m:List UInt8→Bag} {r:HV} (hr:NewIs m [] r):r=t2 (netP 0 [] (fun _=>Bag.zero) ⟨Bag.zero,Bag.zero,true⟩) (intV 0):=by
  generalize he:([]:List Pt)=e at hr
  cases hr with
  | bad h'=>subst he;rw [right_nil] at h';cases h'
  | none _ h'=>subst he;cases h'
  | nil=>rfl
  | full t _ h'=>subst he;have:=congrArg List.length h';rw [T.flat_len] at this;have:=t.size_pos;simp at *;omega
  | fine t _ h'=>subst he;have:=congrArg List.length h';rw [T.flat_len] at this;have:=t.size_pos;simp at *;omega
theorem newIs_tree {m:List UInt8→Bag} {e:List Pt} {r:HV} (hr:NewIs m e r) (h:rightV e=true) (h2:noneV m e=false) (h3:e.length≠0):∃ t:T,t.ok=true∧e=T.flat 0 t∧((256 < t.w∧r=noNet 7)∨(t.w≤256∧r=t2 (treeNet m t) (intV 0))):=by
  cases hr with
  | bad h'=>rw [h] at h';cases h'
  | none _ h'=>rw [h2] at h';cases h'
  | nil h'=>subst h';exact absurd rfl h3
  | full t hok h' _ hw=>exact ⟨t,hok,h',.inl ⟨hw,rfl⟩⟩
  | fine t hok h' _ hw=>exact ⟨t,hok,h',.inr ⟨hw,rfl⟩⟩
theorem fz_rowo {sh:List (Nat×HObj)} {id g n n':Nat} {γ γ':Nat→Bag} (ho:(id,rowO g n γ)∈sh) (hn:n'=n) (h:∀ i,i < n→γ i=γ' i):Fz sh (.os id g 0 n') (.sl 4 n' (rowF γ')):=by
  subst hn
  refine Fz.os id g 0 n' _ _ ho rfl (by show 0+n'≤n';omega) (fun i j hi hj=>?_)
  show Fz sh (bagF (γ (0+i)) j) (bagF (γ' i) j)
  rw [Nat.zero_add,h i hi];exact .imm _
theorem names_from:∀ (l:List Pt) (o:List (List UInt8)) (s:List UInt8),s∈l.foldl addN o→s∈o∨∃ x∈l,x.kind=1∧x.name=s
  | [],o,s,h=>.inl h
  | x :: l, o, s, h => by
    rcases names_from l (addN o x) s h with h' | ⟨y,hy,h1,h2⟩
    · unfold addN at h'
      split at h'
      · rename_i hk
        rcases List.mem_append.1 h' with h'' | h''
        · exact .inl h''
        · rw [List.mem_singleton] at h'';exact .inr ⟨x,List.mem_cons_self ..,hk.1,h''.symm⟩
      · exact .inl h'
    · exact .inr ⟨y,List.mem_cons_of_mem _ hy,h1,h2⟩
theorem names_ok {e:List Pt} (hR:rightV e=true) (s:List UInt8) (hs:s∈namesV e):nameV s=true:=by
  rcases names_from e [] s hs with h | ⟨x,hx,hk,rfl⟩
  · cases h
  · rcases rightV_tree hR with rfl | ⟨t, hok, rfl⟩
    · cases hx
    · have := flat_fine t 0 hok x hx
      unfold aloneV at this
      simp [hk] at this
      simp [this]
section
variable {ov:Nat→Option HV} {g:Nat} {d:Option Tmp} {ty:TypeId} {pos:String} {af:Array Edge} {gd:Option (Nat×Bool)} {T yT:TypeId} {x y:Operand}
theorem hop_eql_fnil {f:Fn} {n:Nat} {caps:Nat→HV} (hT:T=35) (h1:ovl ov x=some (.fn f n caps)) (h2:ovl ov y=some (.imm .nilFunc)) :
    HOp Tryz.prog ⟨d,.binOp .eql T x y yT,ty,pos,af,gd⟩ ov g [] (.imm (.bool false)) [] :=
  hop_pure fun w E ρ hr=>by
    subst hT
    have e1:=hr x _ (by simp [Op.operands]) h1
    have e2:=Rep.imm_inv (hr y _ (by simp [Op.operands]) h2)
    generalize hv:ρ x=v at e1
    cases e1 with
    | fn _ vcs _ _ vs hn hvv hrr =>
      refine ⟨_,?_,.imm _⟩
      have hg:(eqGuard .eql 35 x y (.func f #[] vcs) .nilFunc).run Tryz.prog w=.ok () w:=by kernel_rfl
      have hT:(binOp .eql 35 (.func f #[] vcs) .nilFunc).run Tryz.prog w=.ok (.bool false) w:=by kernel_rfl
      simp only [execOp,hv,e2,Sem.run_bind,hg,Result.andThen_ok,hT,Sem.run_pure]
end
section
variable {mf:FuncId} {mk:Nat} {mcaps:Nat→HV} {mcs:List HV} {m:List UInt8→Bag}
theorem new_h (M:MeanOk mf mk mcaps mcs m) (e:List Pt) (he:PtB e) (r:HV) (hr:NewIs m e r):HPure Tryz.prog 9 [ptsV e,.fn (.func mf) mk mcaps] r:=by
  have hel:=he.1
  refine hpure_of Tryz.func9 rfl (by kernel_rfl) _ _ _ rfl 55 rfl rfl (fun w F=>?_)
  refine srg fun N h1=>?_
  refine hm_1 3 (hop_box (id:=3) (sz:=1) rfl rfl rfl (nb rfl) (nb rfl)) rfl rfl pre0 rfl rfl (c':=1) rfl ?_
  refine sa ?_
  refine sa ?_
  refine snl h1 ?_
  refine hw_seq (fun Nh2 h2=>?_)
  refine srg fun N h3=>?_
  refine sm ?_
  refine s0 (hop_call0 (xs:=[_]) (right_h e he) ⟨rfl,trivial⟩ ⟨(Fz.eq rfl),trivial⟩) ?_
  refine s0 (hop_not rfl) ?_
  refine sm ?_
  refine hq_g 12 3 11 false _ (fun hb=>hol_load ty_35 rfl (nb rfl) (nb rfl) (fun h=>(by rfl))) rfl rfl rfl rfl (pre1 rfl) rfl rfl rfl ?_
  refine stg 11 (fun hb=>hop_eql_fnil rfl rfl rfl) rfl rfl rfl rfl rfl ?_
  refine hq_p 14 (hstep_and _ _ rfl rfl rfl) rfl rfl rfl ?_
  refine nu ?_
  refine h3 _ ?_
  refine wc (fun hc0=>?_) (fun hc0=>?_)
  · have hr0 := hc0; (try simp only [hcs, Int.reduceToNat] at hc0)
    have hR:rightV e=false:=(by simpa using hr0)
    refine srg fun N h4=>?_
    refine sa ?_
    refine sa ?_
    refine snl h4 ?_
    refine hw_ret ?_
    refine hq_then_ret ?_
    refine hq_ret2 rfl (rval_tmp rfl) (rval_tmp rfl) [] rfl pre0 ?_
    rw [newIs_bad hr hR];exact .tup _ _ _ (fun i hi=>by match i,hi with | 0,_=>exact .imm _ | 1,_=>exact .imm _)
  have hr0:=hc0;(try simp only [hcs,Int.reduceToNat] at hc0)
  have hR:rightV e=true:=(by simpa using hr0)
  refine hw_skip ?_
  refine h2 _ ?_
  refine hw_seq (fun Nh5 h5=>?_)
  refine srg fun N h6=>?_
  refine sm ?_
  refine s0 (hop_call0 (xs:=[_]) (names_h e he.1) ⟨rfl,trivial⟩ ⟨(Fz.eq rfl),trivial⟩) ?_
  refine s0 (hop_makeFunc (hs:=[_]) ⟨rfl,trivial⟩) ?_
  refine (hsub_shr 17 [(3,_)] rfl (preC rfl pre0) rfl ((show Fz _ _ (.fn (.func 35) 1 (fun i=>[HV.fp 1 (fun _=>.fn (.func mf) mk mcaps)].getD i default)) from .fn _ _ _ _ (fun i hi=>by obtain rfl:i=0:=(by omega);exact .pt 3 _ 0 0 1 _ _ (.head _) rfl (Nat.lt_succ_self 0) (Nat.le_refl _) (fun j hj=>M.ff _))))).seq ?_
  refine s0 (hop_call0 (xs:=[_,_]) (containsf_h 35 1 (fun i=>[HV.fp 1 (fun _=>.fn (.func mf) mk mcaps)].getD i default) [.fp 1 (fun _=>.fn (.func mf) mk mcaps)] (fun s=>decide (m s=Bag.zero)) rfl (fun i hi=>by obtain rfl:i=0:=(by omega);rfl) ⟨.fp _ _ (Nat.le_refl _) _ _ (fun j hj=>M.ff _),trivial⟩ (fun sh=>.fn _ _ _ _ (fun i hi=>by obtain rfl:i=0:=(by omega);exact .fp _ _ (Nat.le_refl _) _ _ (fun j hj=>M.ff _))) (namesV e) (by have:=names_len (e:=e) e.length;rw [List.take_length] at this;omega) (fun s hs=>new1_h M s (names_ok hR s hs))) ⟨rfl,⟨rfl,trivial⟩⟩ ⟨(Fz.eq rfl),⟨(.fn _ _ _ _ (fun i hi=>by obtain rfl:i=0:=(by omega);exact .fp _ _ (Nat.le_refl _) _ _ (fun j hj=>M.ff _))),trivial⟩⟩) ?_
  refine snl h6 ?_
  refine wc (fun hc1=>?_) (fun hc1=>?_)
  · have hr1 := hc1; (try simp only [hcs, Int.reduceToNat] at hc1)
    refine srg fun N h7=>?_
    refine sa ?_
    refine sa ?_
    refine snl h7 ?_
    refine hw_ret ?_
    refine hq_then_ret ?_
    refine hq_ret2 rfl (rval_tmp rfl) (rval_tmp rfl) [] rfl pre0 ?_
    rw [newIs_none hr hR hr1];exact .tup _ _ _ (fun i hi=>by match i,hi with | 0,_=>exact .imm _ | 1,_=>exact .imm _)
  have hr1:=hc1;(try simp only [hcs,Int.reduceToNat] at hc1)
  refine hw_skip ?_
  refine h5 _ ?_
  refine hw_seq (fun Nh8 h8=>?_)
  refine srg fun N h9=>?_
  refine sm ?_
  refine s0 (hop_len_sl (T:=24) rfl (elOf_spec el_24).1 rfl) ?_
  refine s0 (hop_eql rfl rfl) ?_
  refine snl h9 ?_
  refine wc (fun hc2=>?_) (fun hc2=>?_)
  · have hr2 := hc2; (try simp only [hcs, Int.reduceToNat] at hc2)
    obtain rfl:e=[]:=(by apply List.length_eq_zero_iff.1;omega)
    refine srg fun N h10=>?_
    refine s0 (hop_build (hs:=[(10,1,_)]) st_71 rfl rfl ⟨rfl,rfl,rfl,rfl,rfl,trivial⟩) ?_
    refine hm_1 23 (hop_box (id:=23) (sz:=11) rfl rfl rfl (nb rfl) (nb rfl)) rfl rfl pre0 rfl rfl (c':=2) rfl ?_
    refine sa ?_
    refine sa ?_
    refine snl h10 ?_
    refine hw_ret ?_
    refine hq_then_ret ?_
    refine hq_ret2 rfl (rval_tmp rfl) (rval_tmp rfl) [(23,_)] rfl (preC rfl pre0) ?_
    rw [newIs_nil hr];exact .tup _ _ _ (fun i hi=>by match i,hi with | 0,_=>exact .pt 23 _ 0 0 11 _ _ (.head _) rfl (Nat.lt_succ_self 0) (Nat.le_refl _) (by exact j11 (.nil 0 4 _ (by decide) none) (.nil 0 4 _ (by decide) none) (.imm _) (.imm _) (.imm _) (.imm _) (.imm _) (.imm _) (.imm _) (.imm _) (.imm _)) | 1,_=>exact .imm _)
  have hr2:=hc2;(try simp only [hcs,Int.reduceToNat] at hc2)
  obtain ⟨t,hok,het,hw⟩:=newIs_tree hr hR hr1 (by omega);have hat:AtP e 0 (T.flat 0 t):=⟨[],[],by simp [het],rfl⟩;have hsz:e.length=t.size:=(by rw [het];exact T.flat_len 0 t);have hps:=t.size_pos
  refine hw_skip ?_
  refine h8 _ ?_
  refine hw_seq (fun Nh11 h11=>?_)
  refine srg fun N h12=>?_
  refine sm ?_
  refine sm ?_
  refine s0 (hop_len_sl (T:=24) rfl (elOf_spec el_24).1 rfl) ?_
  refine s0 (HOp.val (v':=intV ((0+t.size - 1:Nat):Int)) (hop_subi rfl rfl rfl (by omega) (by omega)) (congrArg intV (by omega))) ?_
  refine s0 (hop_call0 (xs:=[_,_]) (places_h e he.1 t 0 hok hat) ⟨rfl,⟨rfl,trivial⟩⟩ ⟨(Fz.eq rfl),⟨(Fz.eq rfl),trivial⟩⟩) ?_
  refine s0 (hop_gtr rfl rfl) ?_
  refine snl h12 ?_
  refine wc (fun hc3=>?_) (fun hc3=>?_)
  · have hr3 := hc3; (try simp only [hcs, Int.reduceToNat] at hc3)
    refine srg fun N h13=>?_
    refine sa ?_
    refine sa ?_
    refine snl h13 ?_
    refine hw_ret ?_
    refine hq_then_ret ?_
    refine hq_ret2 rfl (rval_tmp rfl) (rval_tmp rfl) [] rfl pre0 ?_
    rcases hw with ⟨_,rfl⟩ | ⟨hw,_⟩;exact .tup _ _ _ (fun i hi=>by match i,hi with | 0,_=>exact .imm _ | 1,_=>exact .imm _);(exfalso;unfold wMin at hc3;rw [if_pos (by omega)] at hc3;omega)
  have hr3:=hc3;(try simp only [hcs,Int.reduceToNat] at hc3)
  have hww:t.w≤256∧r=t2 (treeNet m t) (intV 0):=(by rcases hw with ⟨hw,_⟩ | hw;(exfalso;unfold wMin at hc3;split at hc3 <;> omega);exact hw);obtain ⟨hwl,rfl⟩:=hww
  refine hw_skip ?_
  refine h11 _ ?_
  refine srg fun N h14=>?_
  refine s0 (hop_build (hs:=[]) st_71 rfl rfl trivial) ?_
  refine hm_1 31 (hop_box (id:=9001) (sz:=11) rfl rfl rfl (by decide) (by decide)) rfl rfl pre0 rfl rfl (c':=2) rfl ?_
  refine sa ?_
  refine snl h14 ?_
  refine hw_seq (fun Nh15 h15=>?_)
  refine (hsub_ownc 9001 0 9002 4 33 (rowF (onF [])) (netF (.os 9002 2 0 0) (.imm (.slice none 0 0)) Bag.zero Bag.zero false) rfl rfl (by exact j11 (.inl ⟨rfl,rfl⟩) (.inr rfl) (.inr rfl) (.inr rfl) (.inr rfl) (.inr rfl) (.inr rfl) (.inr rfl) (.inr rfl) (.inr rfl) (.inr rfl)) (by decide) (by decide) (c':=3) rfl).wp ?_;refine (hsub_ownc 9001 1 9003 4 33 (rowF (fun _=>Bag.zero)) (netF (.os 9002 2 0 0) (.os 9003 3 0 0) Bag.zero Bag.zero false) rfl rfl (by exact j11 (.inr rfl) (.inl ⟨rfl,rfl⟩) (.inr rfl) (.inr rfl) (.inr rfl) (.inr rfl) (.inr rfl) (.inr rfl) (.inr rfl) (.inr rfl) (.inr rfl)) (by decide) (by decide) (c':=4) rfl).wp ?_
  refine hw_region ?_
  refine sm ?_
  refine sm ?_
  refine sm ?_
  refine s0 (hop_len_sl (T:=24) rfl (elOf_spec el_24).1 rfl) ?_
  refine s0 (HOp.val (v':=intV ((0+t.size - 1:Nat):Int)) (hop_subi rfl rfl rfl (by omega) (by omega)) (congrArg intV (by omega))) ?_
  refine sl ty_35 ?_
  refine hf_callR 38 (xs:=[_,_,_,_]) (pre:=[(9001,_),(9002,_),(9003,_)]) (layN_h M e he.1 t 0 hok hat _ 1 2 3 0 [] (fun _=>Bag.zero) rfl (by omega) (fun _=>Bag.zero_ok) (fun _ _ _=>rfl)) ⟨rfl,⟨rfl,⟨rfl,⟨rfl,trivial⟩⟩⟩⟩ (preC rfl (preC rfl (preC rfl pre0))) rfl rfl (fun x1 c1 hyy=>?_)
  obtain ⟨y2,y3⟩:=x1
  (try dsimp only)
  refine hm_1 7 (hop_alloc (id:=7) (sz:=9) zc_74 rfl rfl (nb rfl) (nb rfl)) rfl rfl pre0 rfl rfl (c':=c1+1) rfl ?_
  refine sw (c1+2) ty_74 ?_
  refine snl h15 ?_
  refine hw_seq (fun Nh16 h16=>?_)
  refine hd_start ?_
  refine dm 1 ?_
  refine dm 2 ?_
  refine dm 3 ?_
  refine df 4 fd_74_0 ?_
  refine dl 5 ty_33 ?_
  refine df 6 fd_74_1 ?_
  refine dl 7 ty_33 ?_
  refine df 8 fd_74_2 ?_
  refine dl 9 ty_4 ?_
  refine dk 10 ?_
  refine df 11 fd_71_2 ?_
  refine hd_s1 (hol_store ty_33 rfl rfl rfl rfl (nb rfl) (nb rfl) (nb rfl)) rfl rfl (pre1 rfl) (k':=12) rfl ?_
  refine dk 13 ?_
  refine df 14 fd_71_3 ?_
  refine hd_s1 (hol_store ty_33 rfl rfl rfl rfl (nb rfl) (nb rfl) (nb rfl)) rfl rfl (pre1 rfl) (k':=15) rfl ?_
  refine dk 16 ?_
  refine df 17 fd_71_4 ?_
  refine hd_s1 (hol_store ty_4 rfl rfl rfl rfl (nb rfl) (nb rfl) (nb rfl)) rfl rfl (pre1 rfl) (k':=18) rfl ?_
  refine hd_nil (by kernel_rfl) (by kernel_rfl) (c':=c1+20) rfl ?_
  refine h16 _ ?_
  refine hw_seq (fun Nh17 h17=>?_)
  refine (hsub_ob 9001 ⟨1,1,11,71,0,netF (.os 9002 y2 0 (0+t.w)) (.os 9003 y3 0 (0+t.w)) (lay m t 0).pc.first (lay m t 0).pc.ends (lay m t 0).pc.empty⟩ rfl (by exact OSub.of (fun i j hi hj=>by obtain rfl:i=0:=(by omega);match j,hj with | 0,_=>exact .refl _ | 1,_=>exact .refl _ | 2,_=>exact .refl _ | 3,_=>exact .refl _ | 4,_=>exact .refl _ | 5,_=>exact .refl _ | 6,_=>exact .refl _ | 7,_=>exact .refl _ | 8,_=>exact .refl _ | 9,_=>exact .refl _ | 10,_=>exact .refl _))).wp ?_
  refine hw_region ?_
  refine sm ?_
  refine sa ?_
  refine sa ?_
  refine snl h17 ?_
  refine hw_ret ?_
  refine hq_ret2 rfl (rval_tmp rfl) (rval_tmp rfl) [(9001,_),(9002,_),(9003,_)] rfl (preC rfl (preC rfl (preC rfl pre0))) ?_
  exact .tup _ _ _ (fun i hi=>by match i,hi with | 0,_=>exact .pt 9001 _ 0 0 11 _ _ (.head _) rfl (Nat.lt_succ_self 0) (Nat.le_refl _) (by exact j11 (fz_rowo (γ':=onF (lay m t 0).on) (.tail _ (.head _)) rfl (fun _ _=>rfl)) (fz_rowo (γ':=links (fun _=>Bag.zero) (lay m t 0).lk) (.tail _ (.tail _ (.head _))) rfl (fun _ _=>rfl)) (.imm _) (.imm _) (.imm _) (.imm _) (.imm _) (.imm _) (.imm _) (.imm _) (.imm _)) | 1,_=>exact .imm _)
end
@[reducible] def MnC (e:List Pt) (b:Nat) (t:T):Prop:=HPure Tryz.prog 11 [ptsV e,intV ((b+t.size - 1:Nat):Int)] (intV (wMin t.w))
theorem wMin_id (n:Nat):(if 257 < wMin n then (257:Int) else wMin n)=wMin n:=by unfold wMin;split <;> split <;> omega
theorem many_one (e:List Pt) (he:e.length≤100000) (b:Nat) (t:T) (hok:t.ok=true) (hat:AtP e b (T.flat b t)) (hkl:t.kidsT.length≤100000)
    (ih:∀ i,i < t.kidsT.length→MnC e (b+T.sizeL (t.kidsT.take i)) (t.kidsT.getD i default)):MnC e b t:=by
  have htop:=at_top hat
  have hps:=t.size_pos
  have hkid:=top_kids b t
  have hrl:=rootsL_len t.kidsT b
  generalize htp:t.top b=p at htop hkid
  have hpk:p.kind=t.kind:=by rw [←htp];exact top_kind b t
  refine hpure_of Tryz.func11 rfl (by kernel_rfl) _ _ _ rfl 54 rfl rfl (fun w F=>?_)
  refine srg fun N h1=>?_
  refine sa ?_
  refine snl h1 ?_
  refine srg fun N h2=>?_
  refine sm ?_
  refine sm ?_
  refine s0 (hop_ia_sl el_22 rfl rfl (by omega) (by omega) (nb rfl)) ?_
  refine s0 (HOp.val (v':=ptH p) (hop_load_fp ty_27 rfl (nb rfl) (fun h=>(by cases h))) (pt_at (by omega) htop.1)) ?_
  refine hm_1 5 (hop_alloc (id:=5) (sz:=5) zc_27 rfl rfl (nb rfl) (nb rfl)) rfl rfl pre0 rfl rfl (c':=1) rfl ?_
  refine sw (2) ty_27 ?_
  refine snl h2 ?_
  refine hw_seq (fun Nh3 h3=>?_)
  refine srg fun N h4=>?_
  refine sf fd_27_0 ?_
  refine sl ty_3 ?_
  refine s0 (hop_eql rfl rfl) ?_
  refine snl h4 ?_
  refine wc (fun hc0=>?_) (fun hc0=>?_)
  · have hr0 := hc0; (try simp only [hcs, Int.reduceToNat] at hc0)
    refine srg fun N h5=>?_
    refine sa ?_
    refine snl h5 ?_
    refine hw_ret ?_
    refine hq_then_ret ?_
    refine hq_ret1 rfl (rval_tmp rfl) [] rfl pre0 ?_
    rw [w_name (by rw [←hpk];exact hc0) hok];exact .imm _
  have hr0:=hc0;(try simp only [hcs,Int.reduceToNat] at hc0)
  refine hw_skip ?_
  refine h3 _ ?_
  refine srg fun N h6=>?_
  refine sa ?_
  refine snl h6 ?_
  refine hw_seq (fun Nh7 h7=>?_)
  refine srg fun N h8=>?_
  refine sa ?_
  refine snl h8 ?_
  refine hw_block ?_
  refine hw_loopc (α:=Nat) (fun x c=>⟨54,[(0,.v (ptsV e)),(5,.v (.pt 5 0 0 0)),(6,.v (intV (wMin (T.wL (t.kidsT.take x))))),(7,.v (intV x))],[(5,⟨0,1,5,27,0,fun _=>ptF p⟩)],c⟩) (fun x=>x≤t.kidsT.length) (fun x=>t.kidsT.length - x) (0) (by omega) (hsub_of rfl (Nat.le_refl _) (tsr rfl (tsr rfl (tsr rfl (tsr rfl TmSub.nil)))) (hsr rfl HpSub.nil)) (fun i c hx NhL9 hL9=>?_)
  (try dsimp only at hx hL9 ⊢)
  have hm1:=wMin_le (T.wL (t.kidsT.take i))
  refine hw_seq (fun Nh10 h10=>?_)
  refine srg fun N h11=>?_
  refine sm ?_
  refine sf fd_27_4 ?_
  refine st1 (HOp.val (v':=kidsV p.kids) (hol_load ty_25 rfl (nb rfl) (nb rfl) (fun h=>(by rfl))) (rfl)) rfl rfl rfl ?_
  refine s0 (hop_len_sl (T:=25) rfl (elOf_spec el_25).1 rfl) ?_
  refine s0 (hop_lss rfl rfl) ?_
  refine snl h11 ?_
  refine wc (fun hc1=>?_) (fun hc1=>?_)
  · have hr1 := hc1; (try simp only [hcs, Int.reduceToNat] at hc1)
    have him:i < t.kidsT.length:=(by have h:=hr1;simp [hkid,hrl] at h;omega);have hka:=kids_at' hat him;have hkt:=at_top hka;have hks:=(t.kidsT.getD i default).size_pos;have hroot:=roots_get t.kidsT b i him;have hm2:=wMin_le (t.kidsT.getD i default).w;have hwt:=wL_take t.kidsT i him;have hma:=wMin_add (T.wL (t.kidsT.take i)) (t.kidsT.getD i default).w
    refine hw_skip ?_
    refine h10 _ ?_
    refine hw_seq (fun Nh12 h12=>?_)
    refine hw_block ?_
    refine hw_region ?_
    refine sm ?_
    refine sm ?_
    refine sf fd_27_4 ?_
    refine st1 (HOp.val (v':=kidsV p.kids) (hol_load ty_25 rfl (nb rfl) (nb rfl) (fun h=>(by rfl))) (rfl)) rfl rfl rfl ?_
    refine sm ?_
    refine s0 (hop_ia_sl el_25 rfl rfl (by omega) (by omega) (nb rfl)) ?_
    refine s0 (HOp.val (v':=intV ((b+T.sizeL (t.kidsT.take i)+(t.kidsT.getD i default).size - 1:Nat):Int)) (hop_load_fp ty_3 rfl (nb rfl) (fun h=>(by rfl))) (by exact kids_at (i:=i) (by omega) (by rw [hkid,hroot];unfold T.root;omega))) ?_
    refine s0 (hop_call0 (xs:=[_,_]) (ih i him) ⟨rfl,⟨rfl,trivial⟩⟩ ⟨(Fz.eq rfl),⟨(Fz.eq rfl),trivial⟩⟩) ?_
    refine s0 (hop_addi rfl rfl rfl (by omega) (by omega)) ?_
    refine s0 (HOp.val (v':=intV (wMin (T.wL (t.kidsT.take (i+1))))) (hop_min rfl rfl) (by rw [hwt,←hma])) ?_
    refine sa ?_
    refine hseq_nil ?_
    refine hq_block ?_
    refine h12 _ ?_
    refine hw_region ?_
    refine sm ?_
    refine s0 (hop_addi rfl rfl rfl (by omega) (by omega)) ?_
    refine sa ?_
    refine hseq_nil ?_
    exact hL9 (i+1) _ _ (by (try dsimp only);omega) (by (try dsimp only);omega) (hsub_of rfl (Nat.le_refl _) (tsr rfl (tsr rfl (tsr rfl (tsr rfl TmSub.nil)))) (hsr rfl HpSub.nil))
  have hr1:=hc1;(try simp only [hcs,Int.reduceToNat] at hc1)
  have hit:i=t.kidsT.length:=(by have h:=hr1;simp [hkid,hrl] at h;omega);rw [hit,List.take_length] at hm1 ⊢
  refine hw_exit ?_
  refine hq_then_exit ?_
  refine hq_then_exit ?_
  refine hq_block_here ?_
  refine h7 _ ?_
  refine hw_seq (fun Nh13 h13=>?_)
  refine srg fun N h14=>?_
  refine sf fd_27_0 ?_
  refine sl ty_3 ?_
  refine s0 (hop_eql rfl rfl) ?_
  refine sm ?_
  refine stg 35 (fun hb=>hop_fa fd_27_2 rfl) rfl rfl rfl rfl rfl ?_
  refine hq_g 37 3 35 true _ (fun hb=>hol_load ty_3 rfl (nb rfl) (nb rfl) (fun h=>(by rfl))) rfl rfl rfl rfl (pre1 rfl) rfl rfl rfl ?_
  refine stg 35 (fun hb=>hop_lss rfl rfl) rfl rfl rfl rfl rfl ?_
  refine hq_p 39 (hstep_and _ _ rfl rfl rfl) rfl rfl rfl ?_
  refine nu ?_
  refine h14 _ ?_
  refine wc (fun hc2=>?_) (fun hc2=>?_)
  · have hr2 := hc2; (try simp only [hcs, Int.reduceToNat] at hc2)
    have hct:=w_count b (by rw [←hpk];exact hc2.1) hok;rw [htp] at hct;have hmi:=many_int p.low p.high hct.2.1;have hmm:=wMin_mul (T.wL t.kidsT) (manyOf p.low p.high) (by omega);have hmx:(if p.low < 1 then 1 else p.low)=((manyOf p.low p.high:Nat):Int):=(by rw [←hmi,if_pos hc2.2])
    refine hw_region ?_
    refine sm ?_
    refine sf fd_27_1 ?_
    refine sl ty_3 ?_
    refine s0 (HOp.val (v':=intV ((manyOf p.low p.high:Nat):Int)) (hop_max rfl rfl) (by rw [←hmx])) ?_
    refine s0 (hop_muli rfl rfl rfl (by omega) (by omega)) ?_
    refine sa ?_
    refine snl h13 ?_
    refine srg fun N h15=>?_
    refine sm ?_
    refine s0 (hop_min rfl rfl) ?_
    refine sa ?_
    refine snl h15 ?_
    refine hw_ret ?_
    refine hq_ret1 rfl (rval_tmp rfl) [] rfl pre0 ?_
    rw [hct.1,←hmm.1];exact .imm _
  have hr2:=hc2;(try simp only [hcs,Int.reduceToNat] at hc2)
  refine srg fun N h16=>?_
  refine sf fd_27_0 ?_
  refine sl ty_3 ?_
  refine s0 (hop_eql rfl rfl) ?_
  refine snl h16 ?_
  refine wc (fun hc3=>?_) (fun hc3=>?_)
  · have hr3 := hc3; (try simp only [hcs, Int.reduceToNat] at hc3)
    have hct:=w_count b (by rw [←hpk];exact hc3) hok;rw [htp] at hct;have hmi:=many_int p.low p.high hct.2.1;have hmm:=wMin_mul (T.wL t.kidsT) (manyOf p.low p.high) (by omega);have hmx:p.high=((manyOf p.low p.high:Nat):Int):=(by rw [←hmi,if_neg (fun h=>by have h2:=hr2;simp [hc3,h] at h2)])
    refine hw_region ?_
    refine sm ?_
    refine sf fd_27_2 ?_
    refine st1 (HOp.val (v':=intV ((manyOf p.low p.high:Nat):Int)) (hol_load ty_3 rfl (nb rfl) (nb rfl) (fun h=>(by rfl))) (by exact congrArg intV hmx)) rfl rfl rfl ?_
    refine s0 (hop_muli rfl rfl rfl (by omega) (by omega)) ?_
    refine sa ?_
    refine snl h13 ?_
    refine srg fun N h17=>?_
    refine sm ?_
    refine s0 (hop_min rfl rfl) ?_
    refine sa ?_
    refine snl h17 ?_
    refine hw_ret ?_
    refine hq_ret1 rfl (rval_tmp rfl) [] rfl pre0 ?_
    rw [hct.1,←hmm.1];exact .imm _
  have hr3:=hc3;(try simp only [hcs,Int.reduceToNat] at hc3)
  have hwm:=w_many (by rw [←hpk];exact hc0) (by rw [←hpk];exact hc3);rw [←hwm] at hm1 ⊢
  refine hw_skip ?_
  refine h13 _ ?_
  refine srg fun N h18=>?_
  refine sm ?_
  refine s0 (hop_min rfl rfl) ?_
  refine sa ?_
  refine snl h18 ?_
  refine hw_ret ?_
  refine hq_ret1 rfl (rval_tmp rfl) [] rfl pre0 ?_
  rw [wMin_id];exact .imm _
mutual
theorem manyT_h (e:List Pt) (he:e.length≤100000):∀ (t:T) (b:Nat),t.ok=true→AtP e b (T.flat b t)→MnC e b t
  | .name s,b,hok,hat=>many_one e he b (.name s) hok hat (Nat.zero_le _) (fun i hi=>absurd hi (Nat.not_lt_zero _))
  | .times lo hi t, b, hok, hat => by
    have hok':t.ok=true:=by simp only [T.ok,Bool.and_eq_true] at hok;exact hok.2
    refine many_one e he b (.times lo hi t) hok hat (by simp [T.kidsT]) (fun i hi=>?_)
    obtain rfl:i=0:=by simpa [T.kidsT] using hi
    have:=manyT_h e he t b hok' (by simp only [T.flat] at hat;exact atP_left hat)
    simpa [T.kidsT,T.sizeL] using this
  | .many k ts, b, hok, hat => by
    have hok':T.okL ts=true:=by simp only [T.ok,Bool.and_eq_true] at hok;exact hok.2
    have hkl:(T.many k ts).kidsT.length≤100000:=by
      have:=kids_few2 (t:=.many k ts);have:=(at_top hat).2;omega
    exact many_one e he b (.many k ts) hok hat hkl (fun i hi=>manyL_h e he ts hok' i hi _ (kids_at' hat hi))
theorem manyL_h (e:List Pt) (he:e.length≤100000):∀ ts:List T,T.okL ts=true→∀ i,i < ts.length→∀ b,AtP e b (T.flat b (ts.getD i default))→MnC e b (ts.getD i default)
  | [],_,i,hi=>absurd hi (Nat.not_lt_zero _)
  | t :: ts, hok, i, hi => fun b hat => by
    simp only [T.okL,Bool.and_eq_true] at hok
    cases i with
    | zero=>exact manyT_h e he t b hok.1 hat
    | succ i=>exact manyL_h e he ts hok.2 i (by simpa using hi) b (by simpa using hat)
end
section
variable {ov:Nat→Option HV} {g:Nat} {d:Option Tmp} {ty:TypeId} {pos:String} {af:Array Edge} {gd:Option (Nat×Bool)} {T yT:TypeId} {x y:Operand}
theorem hop_eql_fp {n:Nat} {f:Nat→HV} (hT:T=36) (h1:ovl ov x=some (.fp n f)) (h2:ovl ov y=some (.imm (.pointer none))) :
    HOp Tryz.prog ⟨d,.binOp .eql T x y yT,ty,pos,af,gd⟩ ov g [] (.imm (.bool false)) [] :=
  hop_pure fun w E ρ hr=>by
    subst hT
    have e2:=Rep.imm_inv (hr y _ (by simp [Op.operands]) h2)
    have e1:=hr x _ (by simp [Op.operands]) h1
    generalize hv:ρ x=v at e1
    cases e1 with
    | fp b o _ _ vs _ _ =>
      refine ⟨_,?_,.imm _⟩
      have hg:(eqGuard .eql 36 x y (.pointer (some ⟨b,o,none⟩)) (.pointer none)).run Tryz.prog w=.ok () w:=by kernel_rfl
      have hT:(binOp .eql 36 (.pointer (some ⟨b,o,none⟩)) (.pointer none)).run Tryz.prog w=.ok (.bool false) w:=by kernel_rfl
      simp only [execOp,hv,e2,Sem.run_bind,hg,Result.andThen_ok,hT,Sem.run_pure]
theorem hop_neq_fp {n:Nat} {f:Nat→HV} (hT:T=36) (h1:ovl ov x=some (.fp n f)) (h2:ovl ov y=some (.imm (.pointer none))) :
    HOp Tryz.prog ⟨d,.binOp .neq T x y yT,ty,pos,af,gd⟩ ov g [] (.imm (.bool true)) [] :=
  hop_pure fun w E ρ hr=>by
    subst hT
    have e2:=Rep.imm_inv (hr y _ (by simp [Op.operands]) h2)
    have e1:=hr x _ (by simp [Op.operands]) h1
    generalize hv:ρ x=v at e1
    cases e1 with
    | fp b o _ _ vs _ _ =>
      refine ⟨_,?_,.imm _⟩
      have hg:(eqGuard .neq 36 x y (.pointer (some ⟨b,o,none⟩)) (.pointer none)).run Tryz.prog w=.ok () w:=by kernel_rfl
      have hT:(binOp .neq 36 (.pointer (some ⟨b,o,none⟩)) (.pointer none)).run Tryz.prog w=.ok (.bool true) w:=by kernel_rfl
      simp only [execOp,hv,e2,Sem.run_bind,hg,Result.andThen_ok,hT,Sem.run_pure]
theorem hop_eql_pn (hT:T=36) (h1:ovl ov x=some (.imm (.pointer none))) (h2:ovl ov y=some (.imm (.pointer none))) :
    HOp Tryz.prog ⟨d,.binOp .eql T x y yT,ty,pos,af,gd⟩ ov g [] (.imm (.bool true)) [] :=
  hop_pure fun w E ρ hr=>by
    subst hT
    have e2:=Rep.imm_inv (hr y _ (by simp [Op.operands]) h2)
    have e1:=Rep.imm_inv (hr x _ (by simp [Op.operands]) h1)
    refine ⟨_,?_,.imm _⟩
    have hg:(eqGuard .eql 36 x y (.pointer none) (.pointer none)).run Tryz.prog w=.ok () w:=by kernel_rfl
    have hT:(binOp .eql 36 (.pointer none) (.pointer none)).run Tryz.prog w=.ok (.bool true) w:=by kernel_rfl
    simp only [execOp,e1,e2,Sem.run_bind,hg,Result.andThen_ok,hT,Sem.run_pure]
theorem hop_neq_pn (hT:T=36) (h1:ovl ov x=some (.imm (.pointer none))) (h2:ovl ov y=some (.imm (.pointer none))) :
    HOp Tryz.prog ⟨d,.binOp .neq T x y yT,ty,pos,af,gd⟩ ov g [] (.imm (.bool false)) [] :=
  hop_pure fun w E ρ hr=>by
    subst hT
    have e2:=Rep.imm_inv (hr y _ (by simp [Op.operands]) h2)
    have e1:=Rep.imm_inv (hr x _ (by simp [Op.operands]) h1)
    refine ⟨_,?_,.imm _⟩
    have hg:(eqGuard .neq 36 x y (.pointer none) (.pointer none)).run Tryz.prog w=.ok () w:=by kernel_rfl
    have hT:(binOp .neq 36 (.pointer none) (.pointer none)).run Tryz.prog w=.ok (.bool false) w:=by kernel_rfl
    simp only [execOp,e1,e2,Sem.run_bind,hg,Result.andThen_ok,hT,Sem.run_pure]
end
theorem nplaces_h (wd:Nat) (on:List Bag) (β:Nat→Bag) (p:Pc) (hw:wd≤1000):HPure Tryz.prog 16 [netP wd on β p] (intV (wd:Int)):=by
  refine hpure_of Tryz.func16 rfl (by kernel_rfl) _ _ _ rfl 10 rfl rfl (fun w F=>?_)
  refine srg fun N h1=>?_
  refine sa ?_
  refine snl h1 ?_
  refine hw_seq (fun Nh2 h2=>?_)
  refine srg fun N h3=>?_
  refine sm ?_
  refine s0 (hop_eql_fp rfl rfl rfl) ?_
  refine snl h3 ?_
  refine wc (fun hc0=>?_) (fun hc0=>?_)
  · have hr0 := hc0; (try simp only [hcs, Int.reduceToNat] at hc0)
    exfalso;simp at hr0
  have hr0:=hc0;(try simp only [hcs,Int.reduceToNat] at hc0)
  refine hw_skip ?_
  refine h2 _ ?_
  refine srg fun N h4=>?_
  refine sm ?_
  refine s0 (hop_nilcheck_fp rfl) ?_
  refine s0 (hop_fa_fp fd_71_0 rfl (nb rfl)) ?_
  refine s0 (HOp.val (v':=(HV.sl 4 wd (rowF (onF on)))) (hop_load_fp ty_69 rfl (nb rfl) (fun h=>(by rfl))) (rfl)) ?_
  refine s0 (hop_len_sl (T:=69) rfl (elOf_spec el_69).1 rfl) ?_
  refine sa ?_
  refine snl h4 ?_
  refine hw_ret ?_
  refine hq_ret1 rfl (rval_tmp rfl) [] rfl pre0 ?_
  exact .imm _
theorem nfirst_h (wd:Nat) (on:List Bag) (β:Nat→Bag) (p:Pc):HPure Tryz.prog 15 [netP wd on β p] (bagH p.first):=by
  refine hpure_of Tryz.func15 rfl (by kernel_rfl) _ _ _ rfl 10 rfl rfl (fun w F=>?_)
  refine srg fun N h1=>?_
  refine hm_1 2 (hop_alloc (id:=2) (sz:=4) zc_33 rfl rfl (nb rfl) (nb rfl)) rfl rfl pre0 rfl rfl (c':=1) rfl ?_
  refine snl h1 ?_
  refine hw_seq (fun Nh2 h2=>?_)
  refine srg fun N h3=>?_
  refine sm ?_
  refine s0 (hop_eql_fp rfl rfl rfl) ?_
  refine snl h3 ?_
  refine wc (fun hc0=>?_) (fun hc0=>?_)
  · have hr0 := hc0; (try simp only [hcs, Int.reduceToNat] at hc0)
    exfalso;simp at hr0
  have hr0:=hc0;(try simp only [hcs,Int.reduceToNat] at hc0)
  refine hw_skip ?_
  refine h2 _ ?_
  refine srg fun N h4=>?_
  refine sm ?_
  refine s0 (hop_nilcheck_fp rfl) ?_
  refine s0 (hop_fa_fp fd_71_2 rfl (nb rfl)) ?_
  refine s0 (hop_load_fp ty_33 rfl (nb rfl) (fun h=>(by cases h))) ?_
  refine sw (2) ty_33 ?_
  refine snl h4 ?_
  refine hw_ret ?_
  refine hq_ret1 rfl (rvl_cell rfl rfl ty_33 (fun h=>by first | rfl | cases h) rfl rfl) [] rfl pre0 ?_
  exact fz_bg (by exact j4 rfl rfl rfl rfl)
theorem nends_h (wd:Nat) (on:List Bag) (β:Nat→Bag) (p:Pc):HPure Tryz.prog 23 [netP wd on β p] (bagH p.ends):=by
  refine hpure_of Tryz.func23 rfl (by kernel_rfl) _ _ _ rfl 10 rfl rfl (fun w F=>?_)
  refine srg fun N h1=>?_
  refine hm_1 2 (hop_alloc (id:=2) (sz:=4) zc_33 rfl rfl (nb rfl) (nb rfl)) rfl rfl pre0 rfl rfl (c':=1) rfl ?_
  refine snl h1 ?_
  refine hw_seq (fun Nh2 h2=>?_)
  refine srg fun N h3=>?_
  refine sm ?_
  refine s0 (hop_eql_fp rfl rfl rfl) ?_
  refine snl h3 ?_
  refine wc (fun hc0=>?_) (fun hc0=>?_)
  · have hr0 := hc0; (try simp only [hcs, Int.reduceToNat] at hc0)
    exfalso;simp at hr0
  have hr0:=hc0;(try simp only [hcs,Int.reduceToNat] at hc0)
  refine hw_skip ?_
  refine h2 _ ?_
  refine srg fun N h4=>?_
  refine sm ?_
  refine s0 (hop_nilcheck_fp rfl) ?_
  refine s0 (hop_fa_fp fd_71_3 rfl (nb rfl)) ?_
  refine s0 (hop_load_fp ty_33 rfl (nb rfl) (fun h=>(by cases h))) ?_
  refine sw (2) ty_33 ?_
  refine snl h4 ?_
  refine hw_ret ?_
  refine hq_ret1 rfl (rvl_cell rfl rfl ty_33 (fun h=>by first | rfl | cases h) rfl rfl) [] rfl pre0 ?_
  exact fz_bg (by exact j4 rfl rfl rfl rfl)
theorem nat_h (wd:Nat) (γ:Nat→Bag) (i:Int) (hw:wd≤1000):HPure Tryz.prog 45 [.sl 4 wd (rowF γ),intV i] (bagH (if 0≤i∧i < (wd:Int) then γ i.toNat else Bag.zero)):=by
  refine hpure_of Tryz.func45 rfl (by kernel_rfl) _ _ _ rfl 18 rfl rfl (fun w F=>?_)
  refine srg fun N h1=>?_
  refine hm_1 4 (hop_alloc (id:=4) (sz:=4) zc_33 rfl rfl (nb rfl) (nb rfl)) rfl rfl pre0 rfl rfl (c':=1) rfl ?_
  refine snl h1 ?_
  refine hw_seq (fun Nh2 h2=>?_)
  refine srg fun N h3=>?_
  refine sm ?_
  refine s0 (hop_lss rfl rfl) ?_
  refine sm ?_
  refine gm 7 ?_
  refine gm 7 ?_
  refine stg 7 (fun hb=>hop_len_sl (T:=69) rfl (elOf_spec el_69).1 rfl) rfl rfl rfl rfl rfl ?_
  refine stg 7 (fun hb=>hop_geq rfl rfl) rfl rfl rfl rfl rfl ?_
  refine hq_p 12 (hstep_or _ _ rfl rfl rfl) rfl rfl rfl ?_
  refine nu ?_
  refine h3 _ ?_
  refine wc (fun hc0=>?_) (fun hc0=>?_)
  · have hr0 := hc0; (try simp only [hcs, Int.reduceToNat] at hc0)
    refine srg fun N h4=>?_
    refine s0 (hop_build (hs:=[]) st_33 rfl rfl trivial) ?_
    refine sw (2) ty_33 ?_
    refine snl h4 ?_
    refine hw_ret ?_
    refine hq_then_ret ?_
    refine hq_ret1 rfl (rvl_cell rfl rfl ty_33 (fun h=>by first | rfl | cases h) rfl rfl) [] rfl pre0 ?_
    rw [if_neg (by omega)];exact fz_bg (by exact j4 rfl rfl rfl rfl)
  have hr0:=hc0;(try simp only [hcs,Int.reduceToNat] at hc0)
  have hin:0≤i∧i < (wd:Int):=(by simp at hr0;omega)
  refine hw_skip ?_
  refine h2 _ ?_
  refine srg fun N h5=>?_
  refine sm ?_
  refine sm ?_
  refine s0 (hop_ia_sl el_69 rfl rfl (by omega) (by omega) (nb rfl)) ?_
  refine s0 (hop_load_fp ty_33 rfl (nb rfl) (fun h=>(by cases h))) ?_
  refine sw (2) ty_33 ?_
  refine snl h5 ?_
  refine hw_ret ?_
  refine hq_ret1 rfl (rvl_cell rfl rfl ty_33 (fun h=>by first | rfl | cases h) rfl rfl) [] rfl pre0 ?_
  rw [if_pos hin];exact fz_bg (by exact j4 rfl rfl rfl rfl)
theorem nbehind_h (wd:Nat) (on:List Bag) (β:Nat→Bag) (p:Pc) (i:Int) (hw:wd≤1000):HPure Tryz.prog 21 [netP wd on β p,intV i] (bagH (if 0≤i∧i < (wd:Int) then β i.toNat else Bag.zero)):=by
  refine hpure_of Tryz.func21 rfl (by kernel_rfl) _ _ _ rfl 14 rfl rfl (fun w F=>?_)
  refine srg fun N h1=>?_
  refine hm_1 4 (hop_alloc (id:=4) (sz:=4) zc_33 rfl rfl (nb rfl) (nb rfl)) rfl rfl pre0 rfl rfl (c':=1) rfl ?_
  refine snl h1 ?_
  refine hw_seq (fun Nh2 h2=>?_)
  refine srg fun N h3=>?_
  refine sm ?_
  refine s0 (hop_eql_fp rfl rfl rfl) ?_
  refine snl h3 ?_
  refine wc (fun hc0=>?_) (fun hc0=>?_)
  · have hr0 := hc0; (try simp only [hcs, Int.reduceToNat] at hc0)
    exfalso;simp at hr0
  have hr0:=hc0;(try simp only [hcs,Int.reduceToNat] at hc0)
  refine hw_skip ?_
  refine h2 _ ?_
  refine srg fun N h4=>?_
  refine sm ?_
  refine s0 (hop_nilcheck_fp rfl) ?_
  refine s0 (hop_fa_fp fd_71_1 rfl (nb rfl)) ?_
  refine s0 (HOp.val (v':=(HV.sl 4 wd (rowF β))) (hop_load_fp ty_69 rfl (nb rfl) (fun h=>(by rfl))) (rfl)) ?_
  refine sm ?_
  refine s0 (hop_call0 (xs:=[_,_]) (nat_h wd β i hw) ⟨rfl,⟨rfl,trivial⟩⟩ ⟨(.sl _ _ _ _ fun _ _ _ _=>.imm _),⟨(Fz.eq rfl),trivial⟩⟩) ?_
  refine sw (2) ty_33 ?_
  refine snl h4 ?_
  refine hw_ret ?_
  refine hq_ret1 rfl (rvl_cell rfl rfl ty_33 (fun h=>by first | rfl | cases h) rfl rfl) [] rfl pre0 ?_
  exact fz_bg (by exact j4 rfl rfl rfl rfl)
theorem non_h (wd:Nat) (on:List Bag) (β:Nat→Bag) (p:Pc) (i:Int) (hw:wd≤1000):HPure Tryz.prog 18 [netP wd on β p,intV i] (bagH (if 0≤i∧i < (wd:Int) then onF on i.toNat else Bag.zero)):=by
  refine hpure_of Tryz.func18 rfl (by kernel_rfl) _ _ _ rfl 14 rfl rfl (fun w F=>?_)
  refine srg fun N h1=>?_
  refine hm_1 4 (hop_alloc (id:=4) (sz:=4) zc_33 rfl rfl (nb rfl) (nb rfl)) rfl rfl pre0 rfl rfl (c':=1) rfl ?_
  refine snl h1 ?_
  refine hw_seq (fun Nh2 h2=>?_)
  refine srg fun N h3=>?_
  refine sm ?_
  refine s0 (hop_eql_fp rfl rfl rfl) ?_
  refine snl h3 ?_
  refine wc (fun hc0=>?_) (fun hc0=>?_)
  · have hr0 := hc0; (try simp only [hcs, Int.reduceToNat] at hc0)
    exfalso;simp at hr0
  have hr0:=hc0;(try simp only [hcs,Int.reduceToNat] at hc0)
  refine hw_skip ?_
  refine h2 _ ?_
  refine srg fun N h4=>?_
  refine sm ?_
  refine s0 (hop_nilcheck_fp rfl) ?_
  refine s0 (hop_fa_fp fd_71_0 rfl (nb rfl)) ?_
  refine s0 (HOp.val (v':=(HV.sl 4 wd (rowF (onF on)))) (hop_load_fp ty_69 rfl (nb rfl) (fun h=>(by rfl))) (rfl)) ?_
  refine sm ?_
  refine s0 (hop_call0 (xs:=[_,_]) (nat_h wd (onF on) i hw) ⟨rfl,⟨rfl,trivial⟩⟩ ⟨(.sl _ _ _ _ fun _ _ _ _=>.imm _),⟨(Fz.eq rfl),trivial⟩⟩) ?_
  refine sw (2) ty_33 ?_
  refine snl h4 ?_
  refine hw_ret ?_
  refine hq_ret1 rfl (rvl_cell rfl rfl ty_33 (fun h=>by first | rfl | cases h) rfl rfl) [] rfl pre0 ?_
  exact fz_bg (by exact j4 rfl rfl rfl rfl)
theorem livef_h (s:List UInt8) (hs:s≠[]):HPure Tryz.prog 31 [strV s] (bagH (bagOf [(s.length:Int),bz s 0 - 97])):=by
  have hl:0 < s.length:=List.length_pos_iff.2 hs
  have hb8:(s.getD 0 0).toNat < 256:=UInt8.toNat_lt _
  have hb9:(s[0]?.getD 0).toNat < 256:=UInt8.toNat_lt _
  refine hpure_of Tryz.func31 rfl (by kernel_rfl) _ _ _ rfl 11 rfl rfl (fun w F=>?_)
  refine srg fun N h1=>?_
  refine hm_1 2 (hop_alloc (id:=2) (sz:=4) zc_33 rfl rfl (nb rfl) (nb rfl)) rfl rfl pre0 rfl rfl (c':=1) rfl ?_
  refine snl h1 ?_
  refine srg fun N h2=>?_
  refine sm ?_
  refine s0 (hop_len_strl (T:=9) rfl (by kernel_rfl) rfl) ?_
  refine sm ?_
  refine s0 (hop_ix_strl (by kernel_rfl) rfl rfl (by omega) (by omega)) ?_
  refine s0 (hop_convk wok_i64 (by kernel_rfl) (by kernel_rfl) rfl (by omega) (by simp <;> omega)) ?_
  refine s0 (hop_subi rfl rfl rfl (by omega) (by simp <;> omega)) ?_
  refine hm_1 9 (hop_buildSlice (id:=9) (hs:=[_,_]) ei_25 (nb rfl) rfl (nb rfl) ⟨rfl,rfl,rfl,rfl,⟨rfl,rfl,rfl,rfl,trivial⟩⟩) rfl rfl pre0 rfl rfl (c':=2) rfl ?_
  refine hm_ 10 (hop_call (xs:=[_]) [(9,_)] (of_h [(s.length:Int),bz s 0 - 97] (by simp)) ⟨rfl,trivial⟩ ⟨(show Fz _ _ (iListV [(s.length:Int),bz s 0 - 97]) from fz_row (l:=[(s.length:Int),bz s 0 - 97]) (enc:=fun x _=>intV x) (d:=0) (List.mem_cons_self ..) rfl rfl (Nat.le_refl _) (fun i j hi hj=>by match i,hi,j,hj with | 0,_,0,_=>exact .imm _ | 1,_,0,_=>exact fz_intB (by show _=bz s 0 - 97;rw [bz_in hl];rfl))),trivial⟩ rfl) rfl rfl (preC rfl pre0) rfl rfl (c':=3) rfl ?_
  refine sw (4) ty_33 ?_
  refine snl h2 ?_
  refine hw_ret ?_
  refine hq_ret1 rfl (rvl_cell rfl rfl ty_33 (fun h=>by first | rfl | cases h) rfl rfl) [] rfl pre0 ?_
  exact fz_bg (by exact j4 rfl rfl rfl rfl)
def exE7:List UInt8:=[97,123,49,44,50,125,32,98,42]
def exG7:List Sg:=[⟨1,0,0,0,[97]⟩,⟨5,1,1,2,[]⟩,⟨1,7,0,0,[98]⟩,⟨5,8,0,-1,[]⟩]
def exT7:T:=.many 2 [.times 1 2 (.name [97]),.times 0 (-1) (.name [98])]
theorem exE7_lex0:(match lexV exE7 with | .ok l=>decide (l=exG7) | .error _=>false)=true:=by decide +kernel
theorem exE7_lex:lexV exE7=.ok exG7:=by
  have:=exE7_lex0
  split at this
  · rename_i l hl;rw [hl,of_decide_eq_true this]
  · cases this
theorem exT7_ok:exT7.ok=true:=by decide +kernel
theorem exT7_seg:Seg exG7 3 0 exG7.length exT7:=by
  refine .choice1 _ _ _ (.row 0 4 [.times 1 2 (.name [97]),.times 0 (-1) (.name [98])] (fun i=>2 * i) (by decide) rfl rfl (fun i hi=>?_))
  match i,hi with
  | 0,_=>exact .times 0 1 (.name [97]) (.name 0 (by decide)) (by decide)
  | 1,_=>exact .times 2 3 (.name [98]) (.name 2 (by decide)) (by decide)
theorem ex7_parse {r:List Pt×Int×Int} (h:ParseIs exE7 r):r=(T.flat 0 exT7,0,0):=by
  have hne:exG7≠[]:=by decide
  have hc:chk exG7 0 0 true true=(-1,false):=all_good exT7_seg
  cases h with
  | err e hv=>rw [exE7_lex] at hv;cases hv
  | none hv=>rw [exE7_lex] at hv;injection hv with hv;exact absurd hv hne
  | odd l q hv _ _ hq=>rw [exE7_lex] at hv;injection hv with hv;subst hv;rw [hc] at hq;injection hq with hq _;exact absurd hq (by omega)
  | end_ l hv _ hq=>rw [exE7_lex] at hv;injection hv with hv;subst hv;rw [hc] at hq;injection hq with _ hq;cases hq
  | ok l t hv hs=>rw [exE7_lex] at hv;injection hv with hv;subst hv;rw [seg_one hs exT7_seg]
def exM7 (s:List UInt8):Bag:=bagOf [(s.length:Int),bz s 0 - 97]
theorem nameV_ne {s:List UInt8} (h:nameV s=true):s≠[]:=by rintro rfl;revert h;decide +kernel
theorem exM7_ok:MeanOk 31 0 (fun _=>default) [] exM7 :=
  ⟨rfl,fun i hi=>absurd hi (Nat.not_lt_zero _),trivial,fun sh=>.fn _ _ _ _ (fun i hi=>absurd hi (Nat.not_lt_zero _)),fun s hs=>livef_h s (nameV_ne hs),fun s=>(bagOf_ok_has _).1⟩
theorem ex7_none:noneV exM7 (T.flat 0 exT7)=false:=by decide +kernel
theorem ex7_w:exT7.w=3:=by decide +kernel
theorem ex7_net:(lay exM7 exT7 0).pc.first=bagOf [0]∧(lay exM7 exT7 0).pc.ends=bagOf [0,1,2]∧links (fun _=>Bag.zero) (lay exM7 exT7 0).lk 0=bagOf [1,2]∧links (fun _=>Bag.zero) (lay exM7 exT7 0).lk 2=bagOf [2]:=by decide +kernel
section
variable {P:Program} {ops:Array Oper} {g:Nat}
theorem hstep_known {o:Oper} {tm:Nat→Option TV} {pre post:List (Nat×HObj)} {v:HV} (gi j:Nat) (b:Bool) (hg:o.guard=some (gi,b)) (hgi:(ops[gi]?).bind (·.dst)=some j) (hc:tm j=some (.v (.imm (.bool b)))) (h:HOp P o (pview tm) g pre v post):HStep P ops o tm g ⟨.v v,j::ops_tmps o,pre,post⟩:=by
  intro K w0 F0 E hh a w Q N r ht hG hBd hp hN
  have hj:a.tmps.getD j undef=.bool b:=Rep.imm_inv (ht j _ (List.mem_cons_self ..) hc)
  have hwant:Region.wanted o (yielded ops a.tmps)=true:=by
    unfold Region.wanted yielded
    rw [hg]
    simp only [hgi,Option.bind_some]
    by_cases hjs:j < a.tmps.size
    · have e1 : a.tmps[j]? = some a.tmps[j] := Array.getElem?_eq_getElem hjs
      have e2:a.tmps.getD j undef=a.tmps[j]:=by simp [hjs]
      rw [e1,←e2,hj];simp
    · have e2 : a.tmps.getD j undef = undef := by simp [hjs]
      rw [e2] at hj;simp [undef] at hj
  rw [if_pos hwant]
  refine h K w0 F0 E hh a w Q N r (fun x hv hx ho=>?_) hG hBd hp hN
  cases x with
  | tmp t =>
    simp only [ovl,pview] at ho
    split at ho
    · rename_i y hy
      injection ho with ho
      subst ho
      exact ht t _ (List.mem_cons_of_mem _ (mem_tmps hx)) hy
    · cases ho
  | const v=>exact rep_cst w E _ v hv (by exact ho)
  | global g=>injection ho with ho;subst ho;exact .imm _
  | func f=>injection ho with ho;subst ho;exact .fn _ _ 0 _ (fun _=>undef) rfl (fun i hi=>absurd hi (Nat.not_lt_zero _)) (fun i hi=>absurd hi (Nat.not_lt_zero _))
end
section
variable {C:Ctx} {P:Program} {ops:Array Oper} {Q:Exit→Act→World→Prop} {n clk:Nat} {tm:List (Nat×TV)} {hp:List (Nat×HObj)} {rest:List Oper} {o:Oper} {pre post:List (Nat×HObj)} {v:HV}
theorem hq_k (d j:Nat) (b:Bool) (hop:HOp P o (pview (tget tm)) clk pre v []) (hd:o.dst=some d) {gi:Nat} (hg:o.guard=some (gi,b)) (hgi:(ops[gi]?).bind (·.dst)=some j) (hc:tget tm j=some (.v (.imm (.bool b)))) (hpre:∀ p∈pre,hget hp p.1=some p.2) (hlt:Nat.blt d n=true) (hk:nokey tm d=true)
    (h:HSeq C P ops rest ⟨n,(d,.v v)::tm,hp,clk⟩ Q):HSeq C P ops (o::rest) ⟨n,tm,hp,clk⟩ Q :=
  hseq_consq (s:=⟨n,tm,hp,clk⟩) d _ hd rfl (hstep_known gi j b hg hgi hc hop) hpre hlt hk h (fun j' b' x h=>by cases h)
theorem hm_k (d j:Nat) (b:Bool) (hop:HOp P o (pview (tget tm)) clk pre v post) (hd:o.dst=some d) {gi:Nat} (hg:o.guard=some (gi,b)) (hgi:(ops[gi]?).bind (·.dst)=some j) (hc:tget tm j=some (.v (.imm (.bool b)))) (hpre:∀ p∈pre,hget hp p.1=some p.2) (hlt:Nat.blt d n=true) (hk:nokey tm d=true) {c':Nat} (hcc:clk+1=c')
    (h:HSeq C P ops rest ⟨n,(d,.v v)::tm,post++hp,c'⟩ Q):HSeq C P ops (o::rest) ⟨n,tm,hp,clk⟩ Q:=by
  subst hcc;exact hseq_cons (s:=⟨n,tm,hp,clk⟩) d _ hd (hstep_known gi j b hg hgi hc hop) hpre hlt hk h (fun j b x h=>by cases h)
end
section
variable {P:Program} {ov:Nat→Option HV} {g:Nat} {d:Option Tmp} {ty:TypeId} {pos:String} {af:Array Edge} {gd:Option (Nat×Bool)} {x y z:Operand} {hx:HV}
theorem hop_pick_t (h1:ovl ov x=some (.imm (.bool true))) (h2:ovl ov y=some hx):HOp P ⟨d,.pick x y z,ty,pos,af,gd⟩ ov g [] hx [] :=
  hop_pure fun w E ρ hr=>by
    have e1:=Rep.imm_inv (hr x _ (by simp [Op.operands]) h1)
    exact ⟨ρ y,by simp [execOp,e1,asBool],hr y _ (by simp [Op.operands]) h2⟩
end
instance (w:Nat) (on:List Bag) (β:Nat→Bag) (p:Pc) (j:Nat):Frz (netQ w on β p j):=⟨by unfold netQ;split <;> first | exact .imm _ | exact .sl _ _ _ _ fun _ _ _ _=>.imm _⟩
theorem hop_eqb_t {ov:Nat→Option HV} {g:Nat} {d:Option Tmp} {ty:TypeId} {pos:String} {af:Array Edge} {gd:Option (Nat×Bool)} {T yT:TypeId} {x y:Operand} (s:Bag) {f1 f2:Nat→HV} (hT:T=33) (h1:ovl ov x=some (.agg 4 f1)) (h2:ovl ov y=some (.agg 4 f2)) (hf1:∀ j,j < 4→f1 j=bagF s j) (hf2:∀ j,j < 4→f2 j=bagF s j) :
    HOp Tryz.prog ⟨d,.binOp .eql T x y yT,ty,pos,af,gd⟩ ov g [] (boolV true) []:=by
  have:=hop_eql_bag (g:=g) (d:=d) (ty:=ty) (pos:=pos) (af:=af) (gd:=gd) (yT:=yT) s s hT h1 h2 hf1 hf2
  simpa using this
theorem live7_h:HPure Tryz.prog 6 [] (boolV true):=by
  have hw:=ex7_w
  have hB:=ptB_flat exT7_ok (by decide +kernel)
  have hn:=ex7_net
  refine hpure_of Tryz.func6 rfl (by kernel_rfl) _ _ _ rfl 51 rfl rfl (fun w F=>?_)
  refine srg fun N h1=>?_
  refine sa ?_
  refine snl h1 ?_
  refine srg fun N h2=>?_
  refine hf_callR 7 (xs:=[_]) (pre:=[]) (parse_h _ exE7 (by decide)) ⟨rfl,trivial⟩ pre0 rfl rfl (fun r c1 hr=>?_)
  (try dsimp only)
  refine sm ?_
  refine s0 (hop_extract rfl rfl) ?_
  refine s0 (hop_extract rfl rfl) ?_
  refine s0 (hop_extract rfl rfl) ?_
  refine sa ?_
  refine sa ?_
  refine sa ?_
  refine snl h2 ?_
  refine hw_seq (fun Nh3 h3=>?_)
  obtain rfl:=ex7_parse hr
  refine hw_region ?_
  refine sm ?_
  refine s0 (hop_call0 (xs:=[_,_]) (new_h exM7_ok (T.flat 0 exT7) hB _ (.fine exT7 exT7_ok rfl ex7_none (by rw [hw];decide))) ⟨rfl,⟨rfl,trivial⟩⟩ ⟨(Fz.eq rfl),⟨(Fz.eq rfl),trivial⟩⟩) ?_
  refine sm ?_
  refine s0 (hop_extract rfl rfl) ?_
  refine s0 (hop_extract rfl rfl) ?_
  refine sa ?_
  refine sa ?_
  refine snl h3 ?_
  refine srg fun N h4=>?_
  refine sm ?_
  refine s0 (hop_eql rfl rfl) ?_
  refine sm ?_
  refine hq_k 19 18 true (hop_move rfl) rfl rfl rfl rfl pre0 rfl rfl ?_
  refine hq_k 20 18 true (hop_call0 (xs:=[_]) (nplaces_h (0+exT7.w) _ _ _ (by rw [hw];decide)) ⟨rfl,trivial⟩ ⟨(Fz.eq rfl),trivial⟩) rfl rfl rfl rfl pre0 rfl rfl ?_
  refine hq_k 21 18 true (HOp.val (v':=boolV true) (hop_eql rfl rfl) ((by rw [hw];rfl))) rfl rfl rfl rfl pre0 rfl rfl ?_
  refine s0 (hop_pick_t rfl rfl) ?_
  refine sm ?_
  refine hq_k 24 23 true (hop_move rfl) rfl rfl rfl rfl pre0 rfl rfl ?_
  refine hq_k 25 23 true (hop_call0 (xs:=[_]) (nfirst_h _ _ _ _) ⟨rfl,trivial⟩ ⟨(Fz.eq rfl),trivial⟩) rfl rfl rfl rfl pre0 rfl rfl ?_
  refine hm_k 26 23 true (hop_buildSlice (id:=26) (hs:=[_]) ei_25 (nb rfl) rfl (nb rfl) ⟨rfl,rfl,rfl,rfl,trivial⟩) rfl rfl rfl rfl pre0 rfl rfl (c':=c1+1) rfl ?_
  refine hm_k 27 23 true (hop_call (xs:=[_]) [(26,_)] (of_h [0] (by simp)) ⟨rfl,trivial⟩ ⟨(show Fz _ _ (iListV [0]) from fz_row (l:=([0]:List Int)) (enc:=fun x _=>intV x) (d:=0) (List.mem_cons_self ..) rfl rfl (Nat.le_refl _) (fun i j hi hj=>by match i,hi,j,hj with | 0,_,0,_=>exact .imm _)),trivial⟩ rfl) rfl rfl rfl rfl (preC rfl pre0) rfl rfl (c':=c1+2) rfl ?_
  refine hq_k 28 23 true (hop_eqb_t (bagOf [0]) rfl rfl rfl (by rw [←hn.1];exact fun _ _=>rfl) (fun _ _=>rfl)) rfl rfl rfl rfl pre0 rfl rfl ?_
  refine s0 (hop_pick_t rfl rfl) ?_
  refine sm ?_
  refine hq_k 31 30 true (hop_move rfl) rfl rfl rfl rfl pre0 rfl rfl ?_
  refine hq_k 32 30 true (hop_call0 (xs:=[_]) (nends_h _ _ _ _) ⟨rfl,trivial⟩ ⟨(Fz.eq rfl),trivial⟩) rfl rfl rfl rfl pre0 rfl rfl ?_
  refine hm_k 33 30 true (hop_buildSlice (id:=33) (hs:=[_,_,_]) ei_25 (nb rfl) rfl (nb rfl) ⟨rfl,rfl,rfl,rfl,⟨rfl,rfl,rfl,rfl,⟨rfl,rfl,rfl,rfl,trivial⟩⟩⟩) rfl rfl rfl rfl pre0 rfl rfl (c':=c1+3) rfl ?_
  refine hm_k 34 30 true (hop_call (xs:=[_]) [(33,_)] (of_h [0,1,2] (by simp)) ⟨rfl,trivial⟩ ⟨(show Fz _ _ (iListV [0,1,2]) from fz_row (l:=([0,1,2]:List Int)) (enc:=fun x _=>intV x) (d:=0) (List.mem_cons_self ..) rfl rfl (Nat.le_refl _) (fun i j hi hj=>by match i,hi,j,hj with | 0,_,0,_=>exact .imm _ | 1,_,0,_=>exact .imm _ | 2,_,0,_=>exact .imm _)),trivial⟩ rfl) rfl rfl rfl rfl (preC rfl pre0) rfl rfl (c':=c1+4) rfl ?_
  refine hq_k 35 30 true (hop_eqb_t (bagOf [0,1,2]) rfl rfl rfl (by rw [←hn.2.1];exact fun _ _=>rfl) (fun _ _=>rfl)) rfl rfl rfl rfl pre0 rfl rfl ?_
  refine s0 (hop_pick_t rfl rfl) ?_
  refine sm ?_
  refine hq_k 38 37 true (hop_move rfl) rfl rfl rfl rfl pre0 rfl rfl ?_
  refine hq_k 39 37 true (hop_call0 (xs:=[_,_]) (nbehind_h _ _ _ _ 0 (by rw [hw];decide)) ⟨rfl,⟨rfl,trivial⟩⟩ ⟨(Fz.eq rfl),⟨(Fz.eq rfl),trivial⟩⟩) rfl rfl rfl rfl pre0 rfl rfl ?_
  refine hm_k 40 37 true (hop_buildSlice (id:=40) (hs:=[_,_]) ei_25 (nb rfl) rfl (nb rfl) ⟨rfl,rfl,rfl,rfl,⟨rfl,rfl,rfl,rfl,trivial⟩⟩) rfl rfl rfl rfl pre0 rfl rfl (c':=c1+5) rfl ?_
  refine hm_k 41 37 true (hop_call (xs:=[_]) [(40,_)] (of_h [1,2] (by simp)) ⟨rfl,trivial⟩ ⟨(show Fz _ _ (iListV [1,2]) from fz_row (l:=([1,2]:List Int)) (enc:=fun x _=>intV x) (d:=0) (List.mem_cons_self ..) rfl rfl (Nat.le_refl _) (fun i j hi hj=>by match i,hi,j,hj with | 0,_,0,_=>exact .imm _ | 1,_,0,_=>exact .imm _)),trivial⟩ rfl) rfl rfl rfl rfl (preC rfl pre0) rfl rfl (c':=c1+6) rfl ?_
  refine hq_k 42 37 true (hop_eqb_t (bagOf [1,2]) rfl rfl rfl (by rw [if_pos (by rw [hw];decide),←hn.2.2.1];exact fun _ _=>rfl) (fun _ _=>rfl)) rfl rfl rfl rfl pre0 rfl rfl ?_
  refine s0 (hop_pick_t rfl rfl) ?_
  refine sm ?_
  refine hq_k 45 44 true (hop_move rfl) rfl rfl rfl rfl pre0 rfl rfl ?_
  refine hq_k 46 44 true (hop_call0 (xs:=[_,_]) (nbehind_h _ _ _ _ 2 (by rw [hw];decide)) ⟨rfl,⟨rfl,trivial⟩⟩ ⟨(Fz.eq rfl),⟨(Fz.eq rfl),trivial⟩⟩) rfl rfl rfl rfl pre0 rfl rfl ?_
  refine hm_k 47 44 true (hop_buildSlice (id:=47) (hs:=[_]) ei_25 (nb rfl) rfl (nb rfl) ⟨rfl,rfl,rfl,rfl,trivial⟩) rfl rfl rfl rfl pre0 rfl rfl (c':=c1+7) rfl ?_
  refine hm_k 48 44 true (hop_call (xs:=[_]) [(47,_)] (of_h [2] (by simp)) ⟨rfl,trivial⟩ ⟨(show Fz _ _ (iListV [2]) from fz_row (l:=([2]:List Int)) (enc:=fun x _=>intV x) (d:=0) (List.mem_cons_self ..) rfl rfl (Nat.le_refl _) (fun i j hi hj=>by match i,hi,j,hj with | 0,_,0,_=>exact .imm _)),trivial⟩ rfl) rfl rfl rfl rfl (preC rfl pre0) rfl rfl (c':=c1+8) rfl ?_
  refine hq_k 49 44 true (hop_eqb_t (bagOf [2]) rfl rfl rfl (by rw [if_pos (by rw [hw];decide),←hn.2.2.2];exact fun _ _=>rfl) (fun _ _=>rfl)) rfl rfl rfl rfl pre0 rfl rfl ?_
  refine s0 (hop_pick_t rfl rfl) ?_
  refine sa ?_
  refine nu ?_
  refine h4 _ ?_
  refine hw_ret ?_
  refine hq_ret1 rfl (rval_tmp rfl) [] rfl pre0 ?_
  exact Frz.fz
end Go.Proofs.YtldjnmljnlhaaaaGreatDoor
namespace Go.Proofs.YtldjnmljnlhaaaaGreatDoor
set_option linter.unusedSimpArgs false
set_option linter.unusedVariables false
set_option maxRecDepth 10000
def mrg:List Int→List Int→List Int
  | [],b=>b
  | x::a,[]=>x::a
  | x::a,y::b=>if x < y then x::mrg a (y::b) else if x=y then y::mrg a b else y::mrg (x::a) b
termination_by a b=>a.length+b.length
theorem mrg_nil (a:List Int):mrg a []=a:=by cases a <;> simp [mrg]
theorem nil_mrg (b:List Int):mrg [] b=b:=by simp [mrg]
theorem mrg_lt {x:Int} {a g:List Int} (h:∀ y∈g,x < y):mrg (x::a) g=x::mrg a g:=by
  cases g with
  | nil=>rw [mrg_nil,mrg_nil]
  | cons y b=>rw [mrg,if_pos (h y (List.mem_cons_self ..))]
theorem mrg_gt {y:Int} {f b:List Int} (h:∀ x∈f,y < x):mrg f (y::b)=y::mrg f b:=by
  cases f with
  | nil=>rw [nil_mrg,nil_mrg]
  | cons x a=>have:=h x (List.mem_cons_self ..);rw [mrg,if_neg (by omega),if_neg (by omega)]
theorem mrg_eq {y:Int} {a b:List Int}:mrg (y::a) (y::b)=y::mrg a b:=by
  rw [mrg,if_neg (by omega),if_pos rfl]
theorem mrg_filter (p q:Nat→Bool):∀ l:List Nat,l.Pairwise (· < ·) →
    mrg ((l.filter p).map fun j:Nat=>(j:Int)) ((l.filter q).map fun j:Nat=>(j:Int))=(l.filter fun j=>p j||q j).map fun j:Nat=>(j:Int)
  | [],_=>by simp [mrg]
  | a :: l, h => by
    have hl:=List.pairwise_cons.1 h
    have ih:=mrg_filter p q l hl.2
    have hgt:∀ r:Nat→Bool,∀ y∈(l.filter r).map (fun j:Nat=>(j:Int)),(a:Int) < y:=fun r y hy=>by
      obtain ⟨j,hj,rfl⟩:=List.mem_map.1 hy
      have:=hl.1 j (List.mem_filter.1 hj).1
      omega
    by_cases hp:p a=true <;> by_cases hq:q a=true
    · rw [List.filter_cons_of_pos hp, List.filter_cons_of_pos hq, List.filter_cons_of_pos (by simp [hp])]
      simp only [List.map_cons];rw [mrg_eq,ih]
    · rw [List.filter_cons_of_pos hp, List.filter_cons_of_neg hq, List.filter_cons_of_pos (by simp [hp])]
      simp only [List.map_cons];rw [mrg_lt (hgt q),ih]
    · rw [List.filter_cons_of_neg hp, List.filter_cons_of_pos hq, List.filter_cons_of_pos (by simp [hq])]
      simp only [List.map_cons];rw [mrg_gt (hgt p),ih]
    · rw [List.filter_cons_of_neg hp,List.filter_cons_of_neg hq,List.filter_cons_of_neg (by simp [hp,hq]),ih]
theorem mrg_bun (x y:Bag):mrg x.list y.list=(bun x y).list:=by
  rw [x.list_eq,y.list_eq,(bun x y).list_eq]
  have:=mrg_filter x.has y.has (List.range 256) List.pairwise_lt_range
  rw [this]
  congr 1
  apply List.filter_congr
  intro j _
  rw [bun_has]
def lkP (hi:Int) (g:Nat→Ly) (many:Nat):Nat→List Lk
  | 0=>[]
  | k+1=>lkP hi g many k++(g k).lk++(if hi < 0∧k+1=many then [((g k).pc.ends,(g k).pc.first)] else [])
def outJ (g:Nat→Ly):Nat→Pc
  | 0=>Pc.nil
  | k+1=>(outJ g k).join (g k).pc
def lkJ (g:Nat→Ly):Nat→List Lk
  | 0=>[]
  | k+1=>lkJ g k++[((outJ g k).ends,(g k).pc.first)]
def onP (g:Nat→Ly):Nat→List Bag
  | 0=>[]
  | k+1=>onP g k++(g k).on
def restP (lo:Nat) (g:Nat→Ly):Nat→List Pc
  | 0=>[]
  | k+1=>if k < lo then restP lo g k else restP lo g k++[(g k).pc]
theorem layA_doc {lo hi:Int} (hlo:0≤lo) (g:Nat→Ly) (many:Nat):∀ k,(layA lo hi g many k).1=onP g k∧(layA lo hi g many k).2.1.Perm (lkP hi g many k++lkJ g (min k lo.toNat))∧(layA lo hi g many k).2.2.1=outJ g (min k lo.toNat)∧(layA lo hi g many k).2.2.2=restP lo.toNat g k
  | 0=>by simp [layA,onP,lkP,lkJ,outJ,restP]
  | k + 1 => by
    obtain ⟨h1,h2,h3,h4⟩:=layA_doc hlo g many k
    have hperm:((layA lo hi g many k).2.1++(g k).lk++(if hi < 0∧k+1=many then [((g k).pc.ends,(g k).pc.first)] else [])).Perm (lkP hi g many (k+1)++lkJ g (min k lo.toNat)):=by
      show List.Perm _ (lkP hi g many k++(g k).lk++_++lkJ g (min k lo.toNat))
      rw [List.append_assoc,List.append_assoc (lkP hi g many k),List.append_assoc (lkP hi g many k)]
      refine (List.Perm.append_right _ h2).trans ?_
      rw [List.append_assoc]
      exact List.Perm.append_left _ List.perm_append_comm
    by_cases hk:(k:Int) < lo
    · have e1 : min k lo.toNat = k := by omega
      have e2:min (k+1) lo.toNat=k+1:=by omega
      rw [e1] at hperm h3
      simp only [layA]
      rw [if_pos hk,e2,h1,h4]
      refine ⟨rfl,?_,?_,?_⟩
      · simp only [lkJ, h3]
        rw [←List.append_assoc]
        exact List.Perm.append_right _ hperm
      · simp only [h3];rfl
      · simp only [restP];rw [if_pos (by omega)]
    · have e : min k lo.toNat = min (k + 1) lo.toNat := by omega
      rw [e] at hperm h3
      simp only [layA]
      rw [if_neg hk]
      refine ⟨by simp only [h1];rfl,hperm,h3,?_⟩
      simp only [h4,restP];rw [if_neg (by omega)]
theorem restP_len (lo:Nat) (g:Nat→Ly):∀ k,(restP lo g k).length=k - lo
  | 0=>by simp [restP]
  | k + 1 => by
    have:=restP_len lo g k
    simp only [restP]
    split
    · omega
    · rw [List.length_append,List.length_singleton];omega
theorem restP_get (lo:Nat) (g:Nat→Ly):∀ k j,j < k - lo→(restP lo g k).getD j default=(g (lo+j)).pc
  | 0,j,h=>by omega
  | k + 1, j, h => by
    have hl:=restP_len lo g k
    simp only [restP]
    split
    · exact restP_get lo g k j (by omega)
    · by_cases hj : j < k - lo
      · rw [List.getD_eq_getElem?_getD, List.getElem?_append_left (by omega), ← List.getD_eq_getElem?_getD]
        exact restP_get lo g k j hj
      · rw [List.getD_eq_getElem?_getD, List.getElem?_append_right (by omega)]
        have e:j - (restP lo g k).length=0:=by omega
        rw [e]
        simp only [List.getElem?_cons_zero,Option.getD_some]
        congr 2;omega
theorem layT_doc {lo hi:Int} (hlo:0≤lo) (g:Nat→Ly) (β:Nat→Bag) :
    (layT lo hi g).on=onP g (manyOf lo hi) ∧
    links (links (links (links β (lkP hi g (manyOf lo hi) (manyOf lo hi))) (lkJ g (min (manyOf lo hi) lo.toNat))) (tailB (restP lo.toNat g (manyOf lo hi))).1) [((outJ g (min (manyOf lo hi) lo.toNat)).ends,(tailB (restP lo.toNat g (manyOf lo hi))).2.first)]=links β (layT lo hi g).lk ∧
    (layT lo hi g).pc=(outJ g (min (manyOf lo hi) lo.toNat)).join (tailB (restP lo.toNat g (manyOf lo hi))).2:=by
  obtain ⟨h1,h2,h3,h4⟩:=layA_doc (hi:=hi) hlo g (manyOf lo hi) (manyOf lo hi)
  refine ⟨h1,?_,?_⟩
  · rw [← links_app, ← links_app, ← links_app, ← List.append_assoc, ← List.append_assoc]
    refine links_perm ?_ β
    simp only [layT,h4,h3]
    exact List.Perm.append_right _ (List.Perm.append_right _ h2.symm)
  · simp only [layT,h3,h4]
theorem kw_le {k many w:Nat} (h:k < many):k * w+w≤many * w:=by rw [←Nat.succ_mul];exact Nat.mul_le_mul_right w h
theorem onP_len {g:Nat→Ly} {many N w:Nat} (hg:∀ k,k < many→(g k).Ok (N+k * w) w):∀ k,k≤many→(onP g k).length=k * w
  | 0,_=>by simp [onP]
  | k + 1, h => by
    simp only [onP]
    rw [List.length_append,onP_len hg k (by omega),(hg k (by omega)).len,Nat.succ_mul]
theorem lkP_ok {hi:Int} {g:Nat→Ly} {many N w:Nat} (hg:∀ k,k < many→(g k).Ok (N+k * w) w):∀ k,k≤many→Lks (N+k * w) (lkP hi g many k)
  | 0,_=>fun q hq=>by simp [lkP] at hq
  | k + 1, h => by
    have ih:=lkP_ok (hi:=hi) hg k (by omega)
    have hx:=hg k (by omega)
    have e:N+k * w+w=N+(k+1) * w:=by rw [Nat.succ_mul];omega
    simp only [lkP]
    refine ((ih.mono (by omega)).app (by rw [←e];exact hx.lk)).app ?_
    split
    · rw [←e];exact lks_one hx.pc.2 hx.pc.1 hx.inB.2
    · exact fun q hq=>by cases hq
theorem outJ_ok {g:Nat→Ly} {many N w:Nat} (hg:∀ k,k < many→(g k).Ok (N+k * w) w):∀ k,k≤many→(outJ g k).ok∧(outJ g k).inB N (N+k * w)
  | 0,_=>⟨Pc.nil_ok,Pc.inB_nil _ _⟩
  | k + 1, h => by
    obtain ⟨h1,h2⟩:=outJ_ok hg k (by omega)
    have hx:=hg k (by omega)
    have e:N+k * w+w=N+(k+1) * w:=by rw [Nat.succ_mul];omega
    exact ⟨Pc.join_ok h1 hx.pc,Pc.inB_join (h2.mono (Nat.le_refl _) (by omega)) (hx.inB.mono (by omega) (by omega))⟩
theorem lkJ_ok {g:Nat→Ly} {many N w:Nat} (hg:∀ k,k < many→(g k).Ok (N+k * w) w):∀ k,k≤many→Lks (N+k * w) (lkJ g k)
  | 0,_=>fun q hq=>by simp [lkJ] at hq
  | k + 1, h => by
    have ih:=lkJ_ok hg k (by omega)
    obtain ⟨h1,h2⟩:=outJ_ok hg k (by omega)
    have hx:=hg k (by omega)
    have e:N+k * w+w=N+(k+1) * w:=by rw [Nat.succ_mul];omega
    simp only [lkJ]
    exact (ih.mono (by omega)).app (lks_one h1.2 hx.pc.1 (h2.2.mono (Nat.le_refl _) (by omega)))
theorem restP_ok {lo:Nat} {g:Nat→Ly} {many N w:Nat} (hg:∀ k,k < many→(g k).Ok (N+k * w) w):∀ k,k≤many→∀ p∈restP lo g k,p.ok∧p.inB N (N+k * w)
  | 0,_=>fun p hp=>by simp [restP] at hp
  | k + 1, h => fun p hp => by
    have ih:=restP_ok (lo:=lo) hg k (by omega)
    have hx:=hg k (by omega)
    have e:N+k * w+w=N+(k+1) * w:=by rw [Nat.succ_mul];omega
    simp only [restP] at hp
    split at hp
    · exact ⟨(ih p hp).1,(ih p hp).2.mono (Nat.le_refl _) (by omega)⟩
    · rcases List.mem_append.1 hp with hp | hp
      · exact ⟨(ih p hp).1,(ih p hp).2.mono (Nat.le_refl _) (by omega)⟩
      · rw [List.mem_singleton] at hp;subst hp;exact ⟨hx.pc,hx.inB.mono (by omega) (by omega)⟩
def pcsP (g:Nat→Ly):Nat→List Pc
  | 0=>[]
  | k+1=>pcsP g k++[(g k).pc]
theorem pcsP_len (g:Nat→Ly):∀ k,(pcsP g k).length=k
  | 0=>rfl
  | k+1=>by simp [pcsP,pcsP_len g k]
theorem pcsP_get (g:Nat→Ly):∀ k j,j < k→(pcsP g k).getD j default=(g j).pc
  | 0,j,h=>by omega
  | k + 1, j, h => by
    have hl:=pcsP_len g k
    simp only [pcsP]
    by_cases hj:j < k
    · rw [List.getD_eq_getElem?_getD, List.getElem?_append_left (by omega), ← List.getD_eq_getElem?_getD]
      exact pcsP_get g k j hj
    · obtain rfl : j = k := by omega
      rw [List.getD_eq_getElem?_getD,List.getElem?_append_right (by omega),hl,Nat.sub_self]
      rfl
theorem join_doc (a b:Pc):a.join b=⟨if a.empty then bun a.first b.first else a.first,if b.empty then bun a.ends b.ends else b.ends,a.empty&&b.empty⟩:=by
  unfold Pc.join;rw [bun_comm b.ends a.ends]
end Go.Proofs.YtldjnmljnlhaaaaGreatDoor
namespace Go.Proofs.YtldjnmljnlhaaaaGreatDoor
set_option linter.unusedSimpArgs false
set_option linter.unusedVariables false
open Go.RowKit
set_option maxHeartbeats 400000 in
theorem Same03_any (A1 A2:Option Addr) (n1 n2 c1 c2 B1 B2:Nat) (l1 l2:List Int) (w:World) (hn1:l1.length=n1) (hn2:l2.length=n2) (h1:Sl w B1 1 intC A1 l1) (h2:Sl w B2 1 intC A2 l2) (hb1:n1≤1000000000) (hb2:n2≤1000000000) :
    Calls Tryz.prog 28 #[.slice A1 n1 c1,.slice A2 n2 c2] w fun e w'=>e=.returned (.bool (decide (l1=l2)))∧∃ n,w'=w.drewN n:=by
  subst hn1;subst hn2
  by_cases hl:l1.length=l2.length
  · have hne : ((l1.length : Int) != (l2.length : Int)) = false := by simp [hl]
    have HL:=Lib.hid hl;clear hl
    go_enter Tryz.func28,Tryz.ntmps28
    go_wp2
    go_loopw [5] (fun i wr=>∃ k n:Nat,k≤l1.length∧i=.int .i64 k∧wr=w.drewN n∧Hid (∀ j (a:j < l1.length) (b:j < l2.length),j < k→l1[j]=l2[j])) (fun i _=>l1.length - (intOf i).toNat)
    case atStart=>exact ⟨0,0,Nat.zero_le _,rfl,rfl,fun j a b h=>absurd h (by omega)⟩
    case round =>
      obtain ⟨k,n,hk,rfl,rfl,HE⟩:=hrel
      by_cases hlt:k < l1.length
      · have hlt2 : k < l2.length := by have := HL.out; omega
        obtain ⟨b1,o1,rfl,_⟩:=h1.addr (by omega) (by omega)
        obtain ⟨b2,o2,rfl,_⟩:=h2.addr (by omega) (by omega)
        have r1:w.cell? ⟨b1,o1+k,none⟩=some (.int .i64 l1[k]):=h1.cell1 hlt
        have r2:w.cell? ⟨b2,o2+k,none⟩=some (.int .i64 l2[k]):=h2.cell1 hlt2
        by_cases he:l1[k]=l2[k]
        · have hd : (l1[k] != l2[k]) = false := by simp [he]
          have HE':=Lib.hid he;clear he
          go_wp2
          go_quiet (fail)
          go_wp2
          go_roundw
          case rel =>
            refine ⟨k+1,_,by omega,by go_num,rfl,fun j a b hj=>?_⟩
            rcases Nat.lt_or_ge j k with h | h
            · exact HE.out j a b h
            · obtain rfl : j = k := by omega
              exact HE'.out
          case measure=>simp [intOf];omega
        · have hd : (l1[k] != l2[k]) = true := by simp [he]
          have hne2:decide (l1=l2)=false:=by
            simp only [decide_eq_false_iff_not]
            intro e;subst e;exact he rfl
          clear he
          go_wp2
          go_quiet (fail)
          go_wp2
          go_ret
          exact ⟨ret_bool hne2.symm,n+nq,by rw [World.drewN_drewN]⟩
      · have he2:decide (l1=l2)=true:=by
          simp only [decide_eq_true_eq]
          exact List.ext_getElem HL.out fun j a b=>HE.out j a b (by omega)
        go_wp2
        go_ret
        exact ⟨ret_bool he2.symm,_,rfl⟩
  · have hne : ((l1.length : Int) != (l2.length : Int)) = true := by simp; omega
    have he2:decide (l1=l2)=false:=by
      simp only [decide_eq_false_iff_not]
      intro e;exact hl (by rw [e])
    clear hl
    go_enter Tryz.func28,Tryz.ntmps28
    go_wp2
    go_ret
    exact ⟨ret_bool he2.symm,0,rfl⟩
set_option maxRecDepth 100000
set_option maxHeartbeats 1000000
theorem int_imm (x:Int) (j:Nat) (hj:j < 1):intV x=.imm ((intC x).getD j undef):=by obtain rfl:j=0:=(by omega);rfl
theorem nlist_h (x:Bag) (hx:x.ok):HPure Tryz.prog 29 [bagH x] (iListV x.list):=by
  refine ⟨⟨_,_,Tryz.func29,rfl,by kernel_rfl⟩,fun w F vs hF hr hw=>?_⟩
  obtain ⟨u,rfl,hu⟩:=rep1 hr
  rw [bag_inv hu]
  refine (List_any x hx w (lib_tab hw).2 (lib_tab hw).1).mono ?_
  intro e w' hg
  exact gives_pure hF (fun x _=>intV x) int_imm int_one 0 hg
theorem list03_h (l:List Int) (hl:l.length≤1000000):HPure Tryz.prog 73 [iListV l] (iListV (bagOf l).list):=by
  refine ⟨⟨_,_,Tryz.func73,rfl,by kernel_rfl⟩,fun w F vs hF hr hw=>?_⟩
  obtain ⟨v,rfl,hv⟩:=rep1 hr
  obtain ⟨A,c,rfl,hc,hm,hs⟩:=sl_of 1 intC (fun _=>rfl) (fun x _=>intV x) (fun x j hj=>int_imm x j hj) 0 l hv
  refine (List03_any A l.length c w.heap.size l w rfl hs (Nat.le_refl _) hl).mono ?_
  intro e w' hg
  rw [←list_inList]
  exact gives_pure hF (fun x _=>intV x) int_imm int_one 0 hg
theorem same03_h (a b:List Int) (ha:a.length≤1000000) (hb:b.length≤1000000):HPure Tryz.prog 28 [iListV a,iListV b] (boolV (decide (a=b))):=by
  refine ⟨⟨_,_,Tryz.func28,rfl,by kernel_rfl⟩,fun w F vs hF hr hw=>?_⟩
  obtain ⟨u,v,rfl,hu,hv⟩:=rep2 hr
  obtain ⟨A,c,rfl,hc,hm,hs⟩:=sl_of 1 intC (fun _=>rfl) (fun x _=>intV x) (fun x j hj=>int_imm x j hj) 0 a hu
  obtain ⟨A',c',rfl,hc',hm',hs'⟩:=sl_of 1 intC (fun _=>rfl) (fun x _=>intV x) (fun x j hj=>int_imm x j hj) 0 b hv
  refine (Same03_any A A' a.length b.length c c' w.heap.size w.heap.size a b w rfl rfl hs hs' (by omega) (by omega)).mono ?_
  rintro e w' ⟨rfl,n,rfl⟩
  exact pure_imm hF below_drews
theorem hd_nilU {C:Ctx} {P:Program} {Q:Exit→Act→World→Prop} {n clk:Nat} {tm0:List (Nat×TV)} {hp0:List (Nat×HObj)} {l:List Oper} {ss:List HSpec} {id:Nat} {dn:List Oper} {k:Nat} {tm tm':List (Nat×TV)} {hp:List (Nat×HObj)} (hm:P.follows .mixedOrders=true) (hc:chkR l ss tm0=true) (hu:unOnce tm=true) (ht:dropUn tm []=tm') {c':Nat} (hc':clk+k=c') (h:HQ C Q .normal ⟨n,tm',hp,c'⟩) (nd:C.rd=none∨l.all Oper.calm=true:=by first | exact .inr rfl | exact .inl rfl | exact .inl (by assumption)):HDr P n clk tm0 hp0 l dn ss [] k tm hp (HWp C P (.region id l.toArray true) ⟨n,tm0,hp0,clk⟩ Q) :=
  hd_nil hm hc hc' (fun a w ⟨E,e0,r,hG,hsz,hdf,htm⟩=>h a w ⟨E,e0,r,hG,hsz,hdf,fun t x hx=>htm t x (dropUn_sub hu t x (by rw [ht];exact hx))⟩) nd
section
variable {P:Program} {n clk:Nat} {tm0:List (Nat×TV)} {hp0:List (Nat×HObj)} {ss:List HSpec} {Fin:Prop} {o:Oper} {rest dn:List Oper} {k:Nat} {tm:List (Nat×TV)} {hp:List (Nat×HObj)} {L:List Oper} {pre post:List (Nat×HObj)} {v:HV}
theorem hd_g3 (d gi j j2:Nat) (b2 b c c2:Bool) (hop:c=b→c2=b2→HOp P o (gview (tget tm) j b) (clk+k) pre v []) (hd:o.dst=some d) (hg:o.guard=some (gi,b)) (hgi:(L.toArray[gi]?).bind (·.dst)=some j) (hc:tget tm j=some (.un j2 b2 (.imm (.bool c)))) (hc2:tget tm j2=some (.v (.imm (.bool c2)))) (hpre:∀ p∈pre,hget hp p.1=some p.2) (hlt:Nat.blt d n=true)
    {k':Nat} (hk':k+1=k') (h:HDr P n clk tm0 hp0 L (dn++[o]) (ss++[⟨.un j b v,j::j2::ops_tmps o,pre,[]⟩]) rest k' ((d,.un j b v)::tm) hp Fin):HDr P n clk tm0 hp0 L dn ss (o::rest) k tm hp Fin:=by
  subst hk';exact hd_cons ⟨.un j b v,j::j2::ops_tmps o,pre,[]⟩ d hd (hstep_guard3 gi j j2 b2 b c c2 hg hgi hc hc2 hop) hpre hlt h
end
theorem drop_g {l:List Int} {i:Nat} (h:i < l.length):l.drop i=l.getD i 0::l.drop (i+1):=by
  rw [List.drop_eq_getElem_cons h,List.getD_eq_getElem?_getD,List.getElem?_eq_getElem h];rfl
theorem mrg_len:∀ a b:List Int,(mrg a b).length≤a.length+b.length
  | [],b=>by simp [mrg]
  | x::a,[]=>by simp [mrg]
  | x :: a, y :: b => by
    rw [mrg]
    have h1:=mrg_len a (y::b)
    have h2:=mrg_len a b
    have h3:=mrg_len (x::a) b
    simp only [List.length_cons] at h1 h2 h3 ⊢
    split
    · simp only [List.length_cons];omega
    · split <;> simp only [List.length_cons] <;> omega
termination_by a b=>a.length+b.length
theorem mrg_a {A B:List Int} {i k:Nat} (hi:i < A.length) (h:k=B.length∨(k < B.length∧A.getD i 0 < B.getD k 0)):mrg (A.drop i) (B.drop k)=A.getD i 0::mrg (A.drop (i+1)) (B.drop k):=by
  rw [drop_g hi]
  rcases h with h | ⟨h,h2⟩
  · rw [List.drop_eq_nil_of_le (by omega:B.length≤k),mrg_nil,mrg_nil]
  · rw [drop_g h,mrg,if_pos h2]
theorem mrg_e {A B:List Int} {i k:Nat} (hi:i < A.length) (hk:k < B.length) (h:A.getD i 0=B.getD k 0):mrg (A.drop i) (B.drop k)=B.getD k 0::mrg (A.drop (i+1)) (B.drop (k+1)):=by
  rw [drop_g hi,drop_g hk,h,mrg_eq]
theorem mrg_b {A B:List Int} {i k:Nat} (hk:k < B.length) (h:i=A.length∨(i < A.length∧B.getD k 0 < A.getD i 0)):mrg (A.drop i) (B.drop k)=B.getD k 0::mrg (A.drop i) (B.drop (k+1)):=by
  rw [drop_g hk]
  rcases h with h | ⟨h,h2⟩
  · rw [List.drop_eq_nil_of_le (by omega:A.length≤i),nil_mrg,nil_mrg]
  · rw [drop_g h,mrg,if_neg (by omega),if_neg (by omega)]
@[reducible] def iO (g:Nat) (l:List Int):HObj:=⟨g,l.length,1,3,0,iListF l⟩
theorem refOr0_h (A B:List Int) (hA:A.length≤1000000) (hB:B.length≤1000000):HPure Tryz.prog 57 [iListV A,iListV B] (iListV (mrg A B)):=by
  have hml:=mrg_len A B
  refine hpure_of Tryz.func57 rfl (by kernel_rfl) _ _ _ rfl 75 rfl rfl (fun w F=>?_)
  refine srg fun N h1=>?_
  refine sa ?_
  refine snl h1 ?_
  refine srg fun N h2=>?_
  refine sa ?_
  refine snl h2 ?_
  refine srg fun N h3=>?_
  refine sa ?_
  refine snl h3 ?_
  refine srg fun N h4=>?_
  refine sa ?_
  refine snl h4 ?_
  refine hw_seq (fun Nh5 h5=>?_)
  refine hw_block ?_
  refine hw_own 5 9005 1 3 ((iListF [])) rfl (by decide) rfl (c':=1) rfl ?_
  refine hw_loopc (α:=Nat×Nat×List Int×Nat) (fun x c=>⟨75,[(0,.v (iListV A)),(1,.v (iListV B)),(5,.v (.os 9005 x.2.2.2 0 x.2.2.1.length)),(6,.v (intV x.1)),(7,.v (intV x.2.1))],[(9005,iO x.2.2.2 x.2.2.1)],c⟩) (fun x=>x.1≤A.length∧x.2.1≤B.length∧x.2.2.1++mrg (A.drop x.1) (B.drop x.2.1)=mrg A B) (fun x=>A.length+B.length - x.1 - x.2.1) ((0,0,[],0)) (by exact ⟨Nat.zero_le _,Nat.zero_le _,rfl⟩) (hsub_of rfl (Nat.le_refl _) (tsr rfl (tsr rfl (tsr rfl (tsr rfl (tsr rfl TmSub.nil))))) (hsr rfl HpSub.nil)) (fun x c hx NhL6 hL6=>?_)
  revert hx hL6;obtain ⟨i,k,out,gr⟩:=x;intro hx hL6;dsimp only at hx hL6 ⊢
  obtain ⟨hi,hk,hm⟩:=hx
  have hol:out.length≤2000000:=(by have:=congrArg List.length hm;rw [List.length_append] at this;omega)
  refine hw_seq (fun Nh7 h7=>?_)
  refine srg fun N h8=>?_
  refine sm ?_
  refine sm ?_
  refine s0 (hop_len_sl (T:=25) rfl (elOf_spec el_25).1 rfl) ?_
  refine s0 (hop_lss rfl rfl) ?_
  refine sm ?_
  refine gm 12 ?_
  refine gm 12 ?_
  refine stg 12 (fun hb=>hop_len_sl (T:=25) rfl (elOf_spec el_25).1 rfl) rfl rfl rfl rfl rfl ?_
  refine stg 12 (fun hb=>hop_lss rfl rfl) rfl rfl rfl rfl rfl ?_
  refine hq_p 17 (hstep_or _ _ rfl rfl rfl) rfl rfl rfl ?_
  refine nu ?_
  refine h8 _ ?_
  refine wc (fun hc0=>?_) (fun hc0=>?_)
  · have hr0 := hc0; (try simp only [hcs, Int.reduceToNat] at hc0)
    refine hw_skip ?_
    refine h7 _ ?_
    refine hw_block ?_
    refine hw_seq (fun Nh9 h9=>?_)
    refine hw_seq (fun Nh10 h10=>?_)
    refine hd_start ?_
    refine dm 1 ?_
    refine dm 2 ?_
    refine d0 3 (hop_len_sl (T:=25) rfl (elOf_spec el_25).1 rfl) ?_
    refine d0 4 (hop_eql rfl rfl) ?_
    refine dm 5 ?_
    refine hd_g 23 4 22 false _ (fun hb=>hop_move rfl) rfl rfl rfl rfl pre0 rfl rfl rfl (k':=6) rfl ?_
    refine hd_g 24 4 22 false _ (fun hb=>hop_move rfl) rfl rfl rfl rfl pre0 rfl rfl rfl (k':=7) rfl ?_
    refine hd_g 25 4 22 false _ (fun hb=>hop_len_sl (T:=25) rfl (elOf_spec el_25).1 rfl) rfl rfl rfl rfl pre0 rfl rfl rfl (k':=8) rfl ?_
    refine hd_g 26 4 22 false _ (fun hb=>hop_lss rfl rfl) rfl rfl rfl rfl pre0 rfl rfl rfl (k':=9) rfl ?_
    refine hd_g 27 4 22 false _ (fun hb=>hop_move rfl) rfl rfl rfl rfl pre0 rfl rfl rfl (k':=10) rfl ?_
    refine hd_g3 28 9 27 22 false true _ _ (fun hb hb2=>hop_move rfl) rfl rfl rfl rfl rfl pre0 rfl (k':=11) rfl ?_
    refine hd_g3 29 9 27 22 false true _ _ (fun hb hb2=>hop_move rfl) rfl rfl rfl rfl rfl pre0 rfl (k':=12) rfl ?_
    refine hd_g3 30 9 27 22 false true _ _ (fun hb hb2=>hop_ia_sl el_25 rfl rfl (by simp at hb;omega) (by simp at hb;omega) (nb rfl)) rfl rfl rfl rfl rfl pre0 rfl (k':=13) rfl ?_
    refine hd_g3 31 9 27 22 false true _ _ (fun hb hb2=>hop_load_fp ty_3 rfl (nb rfl) (fun h=>(by rfl))) rfl rfl rfl rfl rfl pre0 rfl (k':=14) rfl ?_
    refine hd_g3 32 9 27 22 false true _ _ (fun hb hb2=>hop_move rfl) rfl rfl rfl rfl rfl pre0 rfl (k':=15) rfl ?_
    refine hd_g3 33 9 27 22 false true _ _ (fun hb hb2=>hop_move rfl) rfl rfl rfl rfl rfl pre0 rfl (k':=16) rfl ?_
    refine hd_g3 34 9 27 22 false true _ _ (fun hb hb2=>hop_ia_sl el_25 rfl rfl (by simp at hb;omega) (by simp at hb2;omega) (nb rfl)) rfl rfl rfl rfl rfl pre0 rfl (k':=17) rfl ?_
    refine hd_g3 35 9 27 22 false true _ _ (fun hb hb2=>hop_load_fp ty_3 rfl (nb rfl) (fun h=>(by rfl))) rfl rfl rfl rfl rfl pre0 rfl (k':=18) rfl ?_
    refine hd_g3 36 9 27 22 false true _ _ (fun hb hb2=>hop_lss rfl rfl) rfl rfl rfl rfl rfl pre0 rfl (k':=19) rfl ?_
    refine hd_pg 37 (hstep_andg (gi:=4) (j:=22) _ _ rfl rfl rfl rfl) rfl rfl (k':=20) rfl ?_
    refine hd_p 38 (hstep_or _ _ rfl rfl rfl) rfl rfl rfl (k':=21) rfl ?_
    refine hd_nilU (by kernel_rfl) (by kernel_rfl) (by rfl) (by simp only [dropUn,slots];exact rfl) (c':=c+21) rfl ?_
    refine h10 _ ?_
    refine wc (fun hc1=>?_) (fun hc1=>?_)
    · have hr1 := hc1; (try simp only [hcs, Int.reduceToNat] at hc1)
      have hia:i < A.length:=(by omega);have hab:k=B.length∨(k < B.length∧A.getD i 0 < B.getD k 0):=(by rcases hc1 with h | h;exact .inl (by omega);rcases Nat.lt_or_ge k B.length with h' | h';exact .inr ⟨h',h.2⟩;exact .inl (by omega))
      refine srg fun N h11=>?_
      refine sm ?_
      refine sm ?_
      refine sm ?_
      refine s0 (hop_ia_sl el_25 rfl rfl (by omega) (by omega) (nb rfl)) ?_
      refine s0 (hop_load_fp ty_3 rfl (nb rfl) (fun h=>(by rfl))) ?_
      refine hm_1 44 (hop_buildSlice (id:=44) (hs:=[_]) ei_25 (nb rfl) rfl (nb rfl) ⟨rfl,rfl,rfl,rfl,trivial⟩) rfl rfl pre0 rfl rfl (c':=c+22) rfl ?_
      refine hm_1 45 (hol_append ei_25 (nb rfl) rfl (by omega) (nb rfl) (srl_os0 rfl (nb rfl)) (by omega) rfl) rfl rfl (preC rfl (pre1 rfl)) rfl rfl (c':=c+23) rfl ?_
      refine sa ?_
      refine snl h11 ?_
      refine srg fun N h12=>?_
      refine sm ?_
      refine s0 (hop_addi rfl rfl rfl (by omega) (by omega)) ?_
      refine sa ?_
      refine snl h12 ?_
      refine hw_exit ?_
      refine hq_then_exit ?_
      refine hq_block_here ?_
      exact hL6 ((i+1,k,out++[A.getD i 0],c+22)) _ _ (by (try dsimp only);exact ⟨by omega,hk,by rw [List.append_assoc,List.singleton_append,←mrg_a hia hab];exact hm⟩) (by (try dsimp only);omega) (hsub_of rfl (Nat.le_refl _) (tsr rfl (tsr rfl (TmSub.cons rfl (sb_os (by simp)) (tsr rfl (tsr rfl TmSub.nil))))) (HpSub.cons rfl (osub_snoc (enc:=fun x _=>intV x) (d:=0) rfl (fun i j _ _=>.refl _) (fun j hj=>.refl _)) HpSub.nil))
    have hr1:=hc1;(try simp only [hcs,Int.reduceToNat] at hc1)
    have hkb:k < B.length:=(by omega)
    refine hw_skip ?_
    refine h9 _ ?_
    refine hw_seq (fun Nh13 h13=>?_)
    refine hw_seq (fun Nh14 h14=>?_)
    refine hd_start ?_
    refine dm 1 ?_
    refine dm 2 ?_
    refine d0 3 (hop_len_sl (T:=25) rfl (elOf_spec el_25).1 rfl) ?_
    refine d0 4 (hop_lss rfl rfl) ?_
    refine dm 5 ?_
    refine hd_g 53 4 52 true _ (fun hb=>hop_move rfl) rfl rfl rfl rfl pre0 rfl rfl rfl (k':=6) rfl ?_
    refine hd_g 54 4 52 true _ (fun hb=>hop_move rfl) rfl rfl rfl rfl pre0 rfl rfl rfl (k':=7) rfl ?_
    refine hd_g 55 4 52 true _ (fun hb=>hop_ia_sl el_25 rfl rfl (by (simp at hb;first | omega | (dsimp only;omega) | (simp <;> omega))) (by (simp at hb;first | omega | (dsimp only;omega) | (simp <;> omega))) (nb rfl)) rfl rfl rfl rfl pre0 rfl rfl rfl (k':=8) rfl ?_
    refine hd_g 56 4 52 true _ (fun hb=>hop_load_fp ty_3 rfl (nb rfl) (fun h=>(by rfl))) rfl rfl rfl rfl pre0 rfl rfl rfl (k':=9) rfl ?_
    refine hd_g 57 4 52 true _ (fun hb=>hop_move rfl) rfl rfl rfl rfl pre0 rfl rfl rfl (k':=10) rfl ?_
    refine hd_g 58 4 52 true _ (fun hb=>hop_move rfl) rfl rfl rfl rfl pre0 rfl rfl rfl (k':=11) rfl ?_
    refine hd_g 59 4 52 true _ (fun hb=>hop_ia_sl el_25 rfl rfl (by (simp at hb;first | omega | (dsimp only;omega) | (simp <;> omega))) (by (simp at hb;first | omega | (dsimp only;omega) | (simp <;> omega))) (nb rfl)) rfl rfl rfl rfl pre0 rfl rfl rfl (k':=12) rfl ?_
    refine hd_g 60 4 52 true _ (fun hb=>hop_load_fp ty_3 rfl (nb rfl) (fun h=>(by rfl))) rfl rfl rfl rfl pre0 rfl rfl rfl (k':=13) rfl ?_
    refine hd_g 61 4 52 true _ (fun hb=>hop_eql rfl rfl) rfl rfl rfl rfl pre0 rfl rfl rfl (k':=14) rfl ?_
    refine hd_p 62 (hstep_and _ _ rfl rfl rfl) rfl rfl rfl (k':=15) rfl ?_
    refine hd_nilU (by kernel_rfl) (by kernel_rfl) (by rfl) (by simp only [dropUn,slots];exact rfl) (c':=c+36) rfl ?_
    refine h14 _ ?_
    refine wc (fun hc2=>?_) (fun hc2=>?_)
    · have hr2 := hc2; (try simp only [hcs, Int.reduceToNat] at hc2)
      have hib:i < A.length∧A.getD i 0=B.getD k 0:=⟨by omega,hc2.2⟩
      refine hw_region ?_
      refine sm ?_
      refine s0 (hop_addi rfl rfl rfl (by omega) (by omega)) ?_
      refine sa ?_
      refine snl h13 ?_
      refine srg fun N h15=>?_
      refine sm ?_
      refine sm ?_
      refine sm ?_
      refine s0 (hop_ia_sl el_25 rfl rfl (by omega) (by omega) (nb rfl)) ?_
      refine s0 (hop_load_fp ty_3 rfl (nb rfl) (fun h=>(by rfl))) ?_
      refine hm_1 70 (hop_buildSlice (id:=70) (hs:=[_]) ei_25 (nb rfl) rfl (nb rfl) ⟨rfl,rfl,rfl,rfl,trivial⟩) rfl rfl pre0 rfl rfl (c':=c+37) rfl ?_
      refine hm_1 71 (hol_append ei_25 (nb rfl) rfl (by omega) (nb rfl) (srl_os0 rfl (nb rfl)) (by omega) rfl) rfl rfl (preC rfl (pre1 rfl)) rfl rfl (c':=c+38) rfl ?_
      refine sa ?_
      refine snl h15 ?_
      refine hw_region ?_
      refine sm ?_
      refine s0 (hop_addi rfl rfl rfl (by omega) (by omega)) ?_
      refine sa ?_
      refine hseq_nil ?_
      refine hq_block ?_
      exact hL6 ((i+1,k+1,out++[B.getD k 0],c+37)) _ _ (by (try dsimp only);exact ⟨by omega,by omega,by rw [List.append_assoc,List.singleton_append,←mrg_e hib.1 hkb hib.2];exact hm⟩) (by (try dsimp only);omega) (hsub_of rfl (Nat.le_refl _) (tsr rfl (tsr rfl (TmSub.cons rfl (sb_os (by simp)) (tsr rfl (tsr rfl TmSub.nil))))) (HpSub.cons rfl (osub_snoc (enc:=fun x _=>intV x) (d:=0) rfl (fun i j _ _=>.refl _) (fun j hj=>.refl _)) HpSub.nil))
    have hr2:=hc2;(try simp only [hcs,Int.reduceToNat] at hc2)
    have hib:i=A.length∨(i < A.length∧B.getD k 0 < A.getD i 0):=(by rcases Nat.lt_or_ge i A.length with h | h;(have hd:decide ((i:Int) < (A.length:Int))=true:=decide_eq_true (by omega);have h1:=hc1.2;rw [hd,Bool.true_and,decide_eq_false_iff_not] at h1;have h2:=hr2;rw [hd,Bool.true_and,beq_eq_false_iff_ne,Int.toNat_natCast,Int.toNat_natCast] at h2;exact .inr ⟨h,by omega⟩);exact .inl (by omega))
    refine hw_skip ?_
    refine h13 _ ?_
    refine srg fun N h16=>?_
    refine sm ?_
    refine sm ?_
    refine sm ?_
    refine s0 (hop_ia_sl el_25 rfl rfl (by omega) (by omega) (nb rfl)) ?_
    refine s0 (hop_load_fp ty_3 rfl (nb rfl) (fun h=>(by rfl))) ?_
    refine hm_1 70 (hop_buildSlice (id:=70) (hs:=[_]) ei_25 (nb rfl) rfl (nb rfl) ⟨rfl,rfl,rfl,rfl,trivial⟩) rfl rfl pre0 rfl rfl (c':=c+37) rfl ?_
    refine hm_1 71 (hol_append ei_25 (nb rfl) rfl (by omega) (nb rfl) (srl_os0 rfl (nb rfl)) (by omega) rfl) rfl rfl (preC rfl (pre1 rfl)) rfl rfl (c':=c+38) rfl ?_
    refine sa ?_
    refine snl h16 ?_
    refine hw_region ?_
    refine sm ?_
    refine s0 (hop_addi rfl rfl rfl (by omega) (by omega)) ?_
    refine sa ?_
    refine hseq_nil ?_
    refine hq_block ?_
    exact hL6 ((i,k+1,out++[B.getD k 0],c+37)) _ _ (by (try dsimp only);exact ⟨hi,by omega,by rw [List.append_assoc,List.singleton_append,←mrg_b hkb hib];exact hm⟩) (by (try dsimp only);omega) (hsub_of rfl (Nat.le_refl _) (tsr rfl (tsr rfl (TmSub.cons rfl (sb_os (by simp)) (tsr rfl (tsr rfl TmSub.nil))))) (HpSub.cons rfl (osub_snoc (enc:=fun x _=>intV x) (d:=0) rfl (fun i j _ _=>.refl _) (fun j hj=>.refl _)) HpSub.nil))
  have hr0:=hc0;(try simp only [hcs,Int.reduceToNat] at hc0)
  refine hw_exit ?_
  refine hq_then_exit ?_
  refine hq_then_exit ?_
  refine hq_block_here ?_
  refine h5 _ ?_
  refine srg fun N h17=>?_
  refine sm ?_
  refine sa ?_
  refine snl h17 ?_
  refine hw_ret ?_
  refine hq_ret1 rfl (rval_tmp rfl) [(9005,_)] rfl (preC rfl pre0) ?_
  have ho:out=mrg A B:=(by rw [List.drop_eq_nil_of_le (by omega),List.drop_eq_nil_of_le (by omega)] at hm;simpa [mrg] using hm);rw [←ho];exact fz_row (l:=out) (enc:=fun x _=>intV x) (d:=0) (List.mem_cons_self ..) rfl rfl (Nat.le_refl _) (fun i j hi hj=>.imm _)
theorem refOr_h (x y:Bag):HPure Tryz.prog 57 [iListV x.list,iListV y.list] (iListV (bun x y).list):=by
  rw [←mrg_bun]
  exact refOr0_h _ _ (by have:=list_le x;omega) (by have:=list_le y;omega)
structure Mn where
  name:List UInt8
  on:List Int
instance:Inhabited Mn:=⟨⟨[],[]⟩⟩
@[reducible] def mnF (x:Mn):Nat→HV:=fun j=>match j with | 0=>strV x.name | _=>iListV x.on
@[reducible] def mnsV (l:List Mn):HV:=.sl 2 l.length (fun i=>mnF (l.getD i default))
theorem fz_mnF {sh:List (Nat×HObj)} (x:Mn) (j:Nat):Fz sh (mnF x j) (mnF x j):=by unfold mnF;split <;> exact Frz.fz
instance frz_mns (l:List Mn):Frz (mnsV l):=⟨.sl _ _ _ _ fun _ _ _ _=>fz_mnF _ _⟩
def meansV:List Mn→List UInt8→Bag
  | [],_=>Bag.zero
  | x::l,s=>if x.name=s then bagOf x.on else meansV l s
theorem means_ok:∀ (l:List Mn) (s:List UInt8),(meansV l s).ok
  | [],_=>Bag.zero_ok
  | x::l,s=>by unfold meansV;split;exact (bagOf_ok_has _).1;exact means_ok l s
theorem means_drop:∀ (l:List Mn) (s:List UInt8) (i:Nat),i≤l.length→(∀ j,j < i→(l.getD j default).name≠s)→meansV l s=meansV (l.drop i) s
  | l,s,0,_,_=>rfl
  | [],s,i+1,h,_=>absurd h (by simp)
  | x :: l, s, i + 1, h, hn => by
    have h0:x.name≠s:=hn 0 (by omega)
    show (if x.name=s then _ else _)=_
    rw [if_neg h0]
    exact means_drop l s i (by simpa using h) (fun j hj=>hn (j+1) (by omega))
theorem means_at {l:List Mn} {s:List UInt8} {i:Nat} (hi:i < l.length) (hn:∀ j,j < i→(l.getD j default).name≠s) (h:(l.getD i default).name=s):meansV l s=bagOf (l.getD i default).on:=by
  rw [means_drop l s i (by omega) hn,List.drop_eq_getElem_cons hi]
  have e:l[i]=l.getD i default:=by rw [List.getD_eq_getElem?_getD,List.getElem?_eq_getElem hi];rfl
  rw [e]
  unfold meansV
  rw [if_pos h]
theorem means_none {l:List Mn} {s:List UInt8} (hn:∀ j,j < l.length→(l.getD j default).name≠s):meansV l s=Bag.zero:=by
  rw [means_drop l s l.length (Nat.le_refl _) hn,List.drop_length];rfl
theorem zero_list:Bag.zero.list=[]:=by decide +kernel
def MnB (l:List Mn):Prop:=l.length≤1000000∧∀ i,i < l.length→(l.getD i default).on.length≤1000000
theorem means_h (l:List Mn) (hB:MnB l) (s:List UInt8):HPure Tryz.prog 43 [mnsV l,strV s] (iListV (meansV l s).list):=by
  have hl:=hB.1
  refine hpure_of Tryz.func43 rfl (by kernel_rfl) _ _ _ rfl 25 rfl rfl (fun w F=>?_)
  refine srg fun N h1=>?_
  refine sa ?_
  refine snl h1 ?_
  refine hw_seq (fun Nh2 h2=>?_)
  refine srg fun N h3=>?_
  refine sa ?_
  refine snl h3 ?_
  refine hw_block ?_
  refine hw_loopc (α:=Nat) (fun x c=>⟨25,[(0,.v (mnsV l)),(1,.v (strV s)),(5,.v (intV x))],[],c⟩) (fun x=>x≤l.length∧∀ j,j < x→(l.getD j default).name≠s) (fun x=>l.length - x) (0) (by exact ⟨Nat.zero_le _,fun j hj=>absurd hj (Nat.not_lt_zero _)⟩) (hsub_of rfl (Nat.le_refl _) (tsr rfl (tsr rfl (tsr rfl TmSub.nil))) HpSub.nil) (fun i c hx NhL4 hL4=>?_)
  (try dsimp only at hx hL4 ⊢)
  obtain ⟨hi,hn⟩:=hx
  refine hw_seq (fun Nh5 h5=>?_)
  refine srg fun N h6=>?_
  refine sm ?_
  refine sm ?_
  refine s0 (hop_len_sl (T:=42) rfl (elOf_spec el_42).1 rfl) ?_
  refine s0 (hop_lss rfl rfl) ?_
  refine snl h6 ?_
  refine wc (fun hc0=>?_) (fun hc0=>?_)
  · have hr0 := hc0; (try simp only [hcs, Int.reduceToNat] at hc0)
    have hil:i < l.length:=(by omega);have hio:=hB.2 i hil
    refine hw_skip ?_
    refine h5 _ ?_
    refine hw_seq (fun Nh7 h7=>?_)
    refine hw_block ?_
    refine srg fun N h8=>?_
    refine sm ?_
    refine sm ?_
    refine s0 (hop_ia_sl el_42 rfl rfl (by omega) (by omega) (nb rfl)) ?_
    refine s0 (hop_fa_fp fd_127_0 rfl (nb rfl)) ?_
    refine s0 (hop_load_fp ty_9 rfl (nb rfl) (fun h=>(by rfl))) ?_
    refine sm ?_
    refine s0 (hop_seq_l rfl rfl) ?_
    refine snl h8 ?_
    refine wc (fun hc1=>?_) (fun hc1=>?_)
    · have hr1 := hc1; (try simp only [hcs, Int.reduceToNat] at hc1)
      refine srg fun N h9=>?_
      refine sm ?_
      refine sm ?_
      refine s0 (hop_ia_sl el_42 rfl rfl (by omega) (by omega) (nb rfl)) ?_
      refine s0 (hop_fa_fp fd_127_1 rfl (nb rfl)) ?_
      refine s0 (hop_load_fp ty_25 rfl (nb rfl) (fun h=>(by rfl))) ?_
      refine s0 (hop_call0 (xs:=[_]) (list03_h (l.getD i default).on hio) ⟨rfl,trivial⟩ ⟨(Fz.eq rfl),trivial⟩) ?_
      refine sa ?_
      refine snl h9 ?_
      refine hw_ret ?_
      refine hq_block_ret ?_
      refine hq_then_ret ?_
      refine hq_then_ret ?_
      refine hq_block_ret ?_
      refine hq_then_ret ?_
      refine hq_ret1 rfl (rval_tmp rfl) [] rfl pre0 ?_
      rw [means_at hil hn hc1];exact Frz.fz
    have hr1:=hc1;(try simp only [hcs,Int.reduceToNat] at hc1)
    refine hw_skip ?_
    refine hq_block ?_
    refine h7 _ ?_
    refine hw_region ?_
    refine sm ?_
    refine s0 (hop_addi rfl rfl rfl (by omega) (by omega)) ?_
    refine sa ?_
    refine hseq_nil ?_
    exact hL4 (i+1) _ _ (by (try dsimp only);exact ⟨by omega,fun j hj=>by rcases Nat.lt_or_ge j i with h | h;exact hn j h;obtain rfl:j=i:=(by omega);exact hc1⟩) (by (try dsimp only);omega) (hsub_of rfl (Nat.le_refl _) (tsr rfl (tsr rfl (tsr rfl TmSub.nil))) HpSub.nil)
  have hr0:=hc0;(try simp only [hcs,Int.reduceToNat] at hc0)
  refine hw_exit ?_
  refine hq_then_exit ?_
  refine hq_then_exit ?_
  refine hq_block_here ?_
  refine h2 _ ?_
  refine srg fun N h10=>?_
  refine sa ?_
  refine snl h10 ?_
  refine hw_ret ?_
  refine hq_ret1 rfl (rval_tmp rfl) [] rfl pre0 ?_
  rw [means_none (fun j hj=>hn j (by omega)),zero_list];exact .nil 0 1 _ (by decide) none
def fewM (l:List Mn):Bool:=decide (l.length≤20)&&l.all (fun x=>decide (x.on.length≤50)&&decide (x.name.length≤50))
theorem fewM_no {l:List Mn} {i:Nat} (hi:i < l.length) (h:50 < (l.getD i default).on.length∨50 < (l.getD i default).name.length):fewM l=false:=by
  unfold fewM
  rw [Bool.and_eq_false_iff];right
  rw [List.all_eq_false]
  have e:l.getD i default=l[i]:=by rw [List.getD_eq_getElem?_getD,List.getElem?_eq_getElem hi];rfl
  refine ⟨l[i],List.getElem_mem hi,?_⟩
  rw [←e]
  rw [Bool.and_eq_true,decide_eq_true_eq,decide_eq_true_eq];omega
theorem fewM_yes {l:List Mn} {i:Nat} (hil:l.length≤i∨21≤i) (hi:i≤l.length) (h:∀ j,j < i→(l.getD j default).on.length≤50∧(l.getD j default).name.length≤50):fewM l=decide (l.length≤20):=by
  unfold fewM
  by_cases h20:l.length≤20
  · have:l.all (fun x=>decide (x.on.length≤50)&&decide (x.name.length≤50))=true:=by
      rw [List.all_eq_true]
      intro x hx
      obtain ⟨j,hj,rfl⟩:=List.mem_iff_getElem.1 hx
      have:=h j (by omega)
      rw [List.getD_eq_getElem?_getD,List.getElem?_eq_getElem hj] at this
      simpa using this
    rw [this,Bool.and_true]
  · rw [decide_eq_false h20];rfl
theorem fewM_B {l:List Mn} (h:fewM l=true):MnB l∧l.length≤20:=by
  unfold fewM at h
  rw [Bool.and_eq_true,decide_eq_true_eq,List.all_eq_true] at h
  refine ⟨⟨by omega,fun i hi=>?_⟩,h.1⟩
  have:=h.2 _ (List.getElem_mem hi)
  rw [List.getD_eq_getElem?_getD,List.getElem?_eq_getElem hi]
  simp at this
  show (l[i]).on.length≤_
  omega
theorem fewM_h (l:List Mn):HPure Tryz.prog 41 [mnsV l] (boolV (fewM l)):=by
  refine hpure_of Tryz.func41 rfl (by kernel_rfl) _ _ _ rfl 33 rfl rfl (fun w F=>?_)
  refine srg fun N h1=>?_
  refine sa ?_
  refine snl h1 ?_
  refine hw_seq (fun Nh2 h2=>?_)
  refine srg fun N h3=>?_
  refine sa ?_
  refine snl h3 ?_
  refine hw_block ?_
  refine hw_loopc (α:=Nat) (fun x c=>⟨33,[(0,.v (mnsV l)),(3,.v (intV x))],[],c⟩) (fun x=>x≤l.length∧x≤21∧∀ j,j < x→(l.getD j default).on.length≤50∧(l.getD j default).name.length≤50) (fun x=>21 - x) (0) (by exact ⟨Nat.zero_le _,Nat.zero_le _,fun j hj=>absurd hj (Nat.not_lt_zero _)⟩) (hsub_of rfl (Nat.le_refl _) (tsr rfl (tsr rfl TmSub.nil)) HpSub.nil) (fun i c hx NhL4 hL4=>?_)
  (try dsimp only at hx hL4 ⊢)
  obtain ⟨hi,hi21,hn⟩:=hx
  refine hw_seq (fun Nh5 h5=>?_)
  refine srg fun N h6=>?_
  refine sm ?_
  refine sm ?_
  refine s0 (hop_len_sl (T:=42) rfl (elOf_spec el_42).1 rfl) ?_
  refine s0 (hop_lss rfl rfl) ?_
  refine sm ?_
  refine gm 8 ?_
  refine stg 8 (fun hb=>hop_lss rfl rfl) rfl rfl rfl rfl rfl ?_
  refine hq_p 11 (hstep_and _ _ rfl rfl rfl) rfl rfl rfl ?_
  refine nu ?_
  refine h6 _ ?_
  refine wc (fun hc0=>?_) (fun hc0=>?_)
  · have hr0 := hc0; (try simp only [hcs, Int.reduceToNat] at hc0)
    have hil:i < l.length∧i < 21:=(by omega);have hil1:=hil.1
    refine hw_skip ?_
    refine h5 _ ?_
    refine hw_seq (fun Nh7 h7=>?_)
    refine hw_block ?_
    refine srg fun N h8=>?_
    refine sm ?_
    refine sm ?_
    refine s0 (hop_ia_sl el_42 rfl rfl (by omega) (by omega) (nb rfl)) ?_
    refine s0 (hop_fa_fp fd_127_1 rfl (nb rfl)) ?_
    refine s0 (hop_load_fp ty_25 rfl (nb rfl) (fun h=>(by rfl))) ?_
    refine s0 (hop_len_sl (T:=25) rfl (elOf_spec el_25).1 rfl) ?_
    refine s0 (hop_gtr rfl rfl) ?_
    refine sm ?_
    refine gm 21 ?_
    refine gm 21 ?_
    refine stg 21 (fun hb=>hop_ia_sl el_42 rfl rfl (by (simp at hb;first | omega | (dsimp only;omega) | (simp <;> omega))) (by (simp at hb;first | omega | (dsimp only;omega) | (simp <;> omega))) (nb rfl)) rfl rfl rfl rfl rfl ?_
    refine stg 21 (fun hb=>hop_fa_fp fd_127_0 rfl (nb rfl)) rfl rfl rfl rfl rfl ?_
    refine stg 21 (fun hb=>hop_load_fp ty_9 rfl (nb rfl) (fun h=>(by rfl))) rfl rfl rfl rfl rfl ?_
    refine stg 21 (fun hb=>hop_len_strl (T:=9) rfl (by kernel_rfl) rfl) rfl rfl rfl rfl rfl ?_
    refine stg 21 (fun hb=>hop_gtr rfl rfl) rfl rfl rfl rfl rfl ?_
    refine hq_p 29 (hstep_or _ _ rfl rfl rfl) rfl rfl rfl ?_
    refine nu ?_
    refine h8 _ ?_
    refine wc (fun hc1=>?_) (fun hc1=>?_)
    · have hr1 := hc1; (try simp only [hcs, Int.reduceToNat] at hc1)
      refine srg fun N h9=>?_
      refine sa ?_
      refine snl h9 ?_
      refine hw_ret ?_
      refine hq_block_ret ?_
      refine hq_then_ret ?_
      refine hq_then_ret ?_
      refine hq_block_ret ?_
      refine hq_then_ret ?_
      refine hq_ret1 rfl (rval_tmp rfl) [] rfl pre0 ?_
      rw [fewM_no hil1 (by omega)];exact .imm _
    have hr1:=hc1;(try simp only [hcs,Int.reduceToNat] at hc1)
    refine hw_skip ?_
    refine hq_block ?_
    refine h7 _ ?_
    refine hw_region ?_
    refine sm ?_
    refine s0 (hop_addi rfl rfl rfl (by omega) (by omega)) ?_
    refine sa ?_
    refine hseq_nil ?_
    exact hL4 (i+1) _ _ (by (try dsimp only);exact ⟨by omega,by omega,fun j hj=>by rcases Nat.lt_or_ge j i with h | h;exact hn j h;obtain rfl:j=i:=(by omega);omega⟩) (by (try dsimp only);omega) (hsub_of rfl (Nat.le_refl _) (tsr rfl (tsr rfl TmSub.nil)) HpSub.nil)
  have hr0:=hc0;(try simp only [hcs,Int.reduceToNat] at hc0)
  have hie:l.length≤i∨21≤i:=(by have h:=hr0;simp at h;omega)
  refine hw_exit ?_
  refine hq_then_exit ?_
  refine hq_then_exit ?_
  refine hq_block_here ?_
  refine h2 _ ?_
  refine srg fun N h10=>?_
  refine sm ?_
  refine s0 (hop_len_sl (T:=42) rfl (elOf_spec el_42).1 rfl) ?_
  refine s0 (hop_leq rfl rfl) ?_
  refine sa ?_
  refine snl h10 ?_
  refine hw_ret ?_
  refine hq_ret1 rfl (rval_tmp rfl) [] rfl pre0 ?_
  rw [fewM_yes hie hi hn];exact fz_bool (decide_eq_decide.2 (by omega))
theorem netc_h (l:List Mn) (hB:MnB l) (s:List UInt8):HPure Tryz.prog 42 [strV s,.fp 1 (fun _=>mnsV l)] (bagH (meansV l s)):=by
  have hml:=list_le (meansV l s)
  refine hpure_of Tryz.func42 rfl (by kernel_rfl) _ _ _ rfl 8 rfl rfl (fun w F=>?_)
  refine srg fun N h1=>?_
  refine hm_1 3 (hop_alloc (id:=3) (sz:=4) zc_33 rfl rfl (nb rfl) (nb rfl)) rfl rfl pre0 rfl rfl (c':=1) rfl ?_
  refine snl h1 ?_
  refine srg fun N h2=>?_
  refine s0 (hop_load_fp ty_42 rfl (nb rfl) (fun h=>(by rfl))) ?_
  refine sm ?_
  refine s0 (hop_call0 (xs:=[_,_]) (means_h l hB s) ⟨rfl,⟨rfl,trivial⟩⟩ ⟨(Fz.eq rfl),⟨(Fz.eq rfl),trivial⟩⟩) ?_
  refine s0 (hop_call0 (xs:=[_]) (of_h (meansV l s).list (by omega)) ⟨rfl,trivial⟩ ⟨(Fz.eq rfl),trivial⟩) ?_
  refine sw (2) ty_33 ?_
  refine snl h2 ?_
  refine hw_ret ?_
  refine hq_ret1 rfl (rvl_cell rfl rfl ty_33 (fun h=>by first | rfl | cases h) rfl rfl) [] rfl pre0 ?_
  rw [Bag.of_list _ (means_ok l s)];exact fz_bg (by exact j4 rfl rfl rfl rfl)
theorem meansOk (l:List Mn) (hB:MnB l):MeanOk 42 1 (fun i=>[HV.fp 1 (fun _=>mnsV l)].getD i default) [.fp 1 (fun _=>mnsV l)] (meansV l) :=
  ⟨rfl,fun i hi=>by obtain rfl:i=0:=(by omega);rfl,⟨.fp _ _ (Nat.le_refl _) _ _ (fun j hj=>Frz.fz),trivial⟩,fun sh=>.fn _ _ _ _ (fun i hi=>by obtain rfl:i=0:=(by omega);exact .fp _ _ (Nat.le_refl _) _ _ (fun j hj=>Frz.fz)),fun s _=>netc_h l hB s,means_ok l⟩
def noneE (l:List Mn) (e:List Pt):Bool:=e.any (fun p=>decide (p.kind=1)&&decide (meansV l p.name=Bag.zero))
theorem list_nil {x:Bag} (hx:x.ok):(x.list.length=0)↔x=Bag.zero:=by
  constructor
  · intro h
    exact Bag.ext_list x Bag.zero hx Bag.zero_ok (by rw [zero_list];exact List.length_eq_zero_iff.1 h)
  · rintro rfl;rw [zero_list];rfl
theorem noneE_yes {l:List Mn} {e:List Pt} {i:Nat} (hi:i < e.length) (h1:(e.getD i default).kind=1) (h2:meansV l (e.getD i default).name=Bag.zero):noneE l e=true:=by
  unfold noneE
  rw [List.any_eq_true]
  have e1:e.getD i default=e[i]:=by rw [List.getD_eq_getElem?_getD,List.getElem?_eq_getElem hi];rfl
  exact ⟨e[i],List.getElem_mem hi,by rw [←e1,decide_eq_true h1,decide_eq_true h2];rfl⟩
theorem noneE_no {l:List Mn} {e:List Pt} (h:∀ j,j < e.length→¬ ((e.getD j default).kind=1∧meansV l (e.getD j default).name=Bag.zero)):noneE l e=false:=by
  unfold noneE
  rw [List.any_eq_false]
  intro x hx
  obtain ⟨j,hj,rfl⟩:=List.mem_iff_getElem.1 hx
  have:=h j hj
  rw [List.getD_eq_getElem?_getD,List.getElem?_eq_getElem hj] at this
  simpa using this
theorem none_h (l:List Mn) (hB:MnB l) (e:List Pt) (he:e.length≤100000):HPure Tryz.prog 13 [ptsV e,mnsV l] (boolV (noneE l e)):=by
  have hl:=hB.1
  refine hpure_of Tryz.func13 rfl (by kernel_rfl) _ _ _ rfl 29 rfl rfl (fun w F=>?_)
  refine srg fun N h1=>?_
  refine sa ?_
  refine snl h1 ?_
  refine hw_seq (fun Nh2 h2=>?_)
  refine srg fun N h3=>?_
  refine sa ?_
  refine snl h3 ?_
  refine hw_block ?_
  refine hw_loopc (α:=Nat) (fun x c=>⟨29,[(0,.v (ptsV e)),(1,.v (mnsV l)),(5,.v (intV x))],[],c⟩) (fun x=>x≤e.length∧∀ j,j < x→¬ ((e.getD j default).kind=1∧meansV l (e.getD j default).name=Bag.zero)) (fun x=>e.length - x) (0) (by exact ⟨Nat.zero_le _,fun j hj=>absurd hj (Nat.not_lt_zero _)⟩) (hsub_of rfl (Nat.le_refl _) (tsr rfl (tsr rfl (tsr rfl TmSub.nil))) HpSub.nil) (fun i c hx NhL4 hL4=>?_)
  (try dsimp only at hx hL4 ⊢)
  obtain ⟨hi,hn⟩:=hx
  refine hw_seq (fun Nh5 h5=>?_)
  refine srg fun N h6=>?_
  refine sm ?_
  refine sm ?_
  refine s0 (hop_len_sl (T:=22) rfl (elOf_spec el_22).1 rfl) ?_
  refine s0 (hop_lss rfl rfl) ?_
  refine snl h6 ?_
  refine wc (fun hc0=>?_) (fun hc0=>?_)
  · have hr0 := hc0; (try simp only [hcs, Int.reduceToNat] at hc0)
    have hil:i < e.length:=(by omega)
    refine hw_skip ?_
    refine h5 _ ?_
    refine hw_seq (fun Nh7 h7=>?_)
    refine hw_block ?_
    refine srg fun N h8=>?_
    refine sm ?_
    refine sm ?_
    refine s0 (hop_ia_sl el_22 rfl rfl (by omega) (by omega) (nb rfl)) ?_
    refine s0 (hop_fa_fp fd_27_0 rfl (nb rfl)) ?_
    refine s0 (hop_load_fp ty_3 rfl (nb rfl) (fun h=>(by rfl))) ?_
    refine s0 (hop_eql rfl rfl) ?_
    refine sm ?_
    refine gm 18 ?_
    refine gm 18 ?_
    refine gm 18 ?_
    refine stg 18 (fun hb=>hop_ia_sl el_22 rfl rfl (by (simp at hb;first | omega | (dsimp only;omega) | (simp <;> omega))) (by (simp at hb;first | omega | (dsimp only;omega) | (simp <;> omega))) (nb rfl)) rfl rfl rfl rfl rfl ?_
    refine stg 18 (fun hb=>hop_fa_fp fd_27_3 rfl (nb rfl)) rfl rfl rfl rfl rfl ?_
    refine stg 18 (fun hb=>hop_load_fp ty_9 rfl (nb rfl) (fun h=>(by rfl))) rfl rfl rfl rfl rfl ?_
    refine stg 18 (fun hb=>hop_call0 (xs:=[_,_]) (means_h l hB (e.getD i default).name) ⟨rfl,⟨rfl,trivial⟩⟩ ⟨(Fz.eq rfl),⟨(Fz.eq rfl),trivial⟩⟩) rfl rfl rfl rfl rfl ?_
    refine stg 18 (fun hb=>hop_len_sl (T:=25) rfl (elOf_spec el_25).1 rfl) rfl rfl rfl rfl rfl ?_
    refine stg 18 (fun hb=>hop_eql rfl rfl) rfl rfl rfl rfl rfl ?_
    refine hq_p 28 (hstep_and _ _ rfl rfl rfl) rfl rfl rfl ?_
    refine nu ?_
    refine h8 _ ?_
    refine wc (fun hc1=>?_) (fun hc1=>?_)
    · have hr1 := hc1; (try simp only [hcs, Int.reduceToNat] at hc1)
      refine srg fun N h9=>?_
      refine sa ?_
      refine snl h9 ?_
      refine hw_ret ?_
      refine hq_block_ret ?_
      refine hq_then_ret ?_
      refine hq_then_ret ?_
      refine hq_block_ret ?_
      refine hq_then_ret ?_
      refine hq_ret1 rfl (rval_tmp rfl) [] rfl pre0 ?_
      rw [noneE_yes hil hc1.1 ((list_nil (means_ok _ _)).1 (by omega))];exact .imm _
    have hr1:=hc1;(try simp only [hcs,Int.reduceToNat] at hc1)
    refine hw_skip ?_
    refine hq_block ?_
    refine h7 _ ?_
    refine hw_region ?_
    refine sm ?_
    refine s0 (hop_addi rfl rfl rfl (by omega) (by omega)) ?_
    refine sa ?_
    refine hseq_nil ?_
    exact hL4 (i+1) _ _ (by (try dsimp only);exact ⟨by omega,fun j hj=>by rcases Nat.lt_or_ge j i with h | h;exact hn j h;obtain rfl:j=i:=(by omega);exact fun ⟨ha,hb⟩=>by have h1:=hr1;rw [Int.toNat_natCast,ha,hb,zero_list] at h1;exact absurd h1 (by decide)⟩) (by (try dsimp only);omega) (hsub_of rfl (Nat.le_refl _) (tsr rfl (tsr rfl (tsr rfl TmSub.nil))) HpSub.nil)
  have hr0:=hc0;(try simp only [hcs,Int.reduceToNat] at hc0)
  refine hw_exit ?_
  refine hq_then_exit ?_
  refine hq_then_exit ?_
  refine hq_block_here ?_
  refine h2 _ ?_
  refine srg fun N h10=>?_
  refine sa ?_
  refine snl h10 ?_
  refine hw_ret ?_
  refine hq_ret1 rfl (rval_tmp rfl) [] rfl pre0 ?_
  rw [noneE_no (fun j hj=>hn j (by omega))];exact .imm _
@[reducible] def nilS:HV:=.imm (.slice none 0 0)
def ndF (on be:HV) (p:Pc):Nat→Nat→HV:=fun _ j=>match j with
  | 0=>on | 1=>be | 2=>iListV p.first.list | 3=>iListV p.ends.list | _=>boolV p.empty
@[reducible] def ndO (g:Nat) (on be:HV) (p:Pc):HObj:=⟨g,1,5,55,0,ndF on be p⟩
@[reducible] def ndV (p:Pc):HV:=.agg 5 (ndF nilS nilS p 0)
@[reducible] def lrF (β:Nat→Bag):Nat→Nat→HV:=fun i _=>iListV (β i).list
@[reducible] def lrO (g M:Nat) (β:Nat→Bag):HObj:=⟨g,M,1,25,0,lrF β⟩
theorem fz_ndF {sh:List (Nat×HObj)} (p:Pc) (j:Nat):Fz sh (ndF nilS nilS p 0 j) (ndF nilS nilS p 0 j):=by unfold ndF;split <;> exact Frz.fz
instance frz_nd (p:Pc):Frz (ndV p):=⟨.agg _ _ _ fun j _=>fz_ndF p j⟩
theorem jn5 {P:Nat→Prop} (h0:P 0) (h1:P 1) (h2:P 2) (h3:P 3) (h4:P 4):∀ j,j < 5→P j:=fun j hj=>by
  match j,hj with | 0,_=>exact h0 | 1,_=>exact h1 | 2,_=>exact h2 | 3,_=>exact h3 | 4,_=>exact h4
theorem okz_lrow {kp sh:List (Nat×HObj)} {g M:Nat} {β β':Nat→Bag} (h:∀ p,p < M→β p=β' p):OKz kp sh (lrO g M β) (lrO g M β'):=.of fun i j hi hj=>by
  show Kz kp sh (iListV (β i).list) (iListV (β' i).list)
  rw [h i hi];exact .fz _ _ Frz.fz
theorem osub_lrow {g M:Nat} {f:Nat→Nat→HV} {β:Nat→Bag} (h:∀ i,i < M→f i 0=iListV (β i).list):OSub ⟨g,M,1,25,0,f⟩ (lrO g M β):=OSub.of fun i j hi hj=>by
  obtain rfl:j=0:=by omega
  rw [h i hi];exact .refl _
theorem upd_lrow {γ:Nat→Bag} {x:Bag} {q i:Nat}:upd (lrF γ) q 0 1 (iListV x.list).cell i 0=iListV (if i=q then x else γ i).list:=by
  unfold upd inb
  have h0:(Nat.ble 0 0&&Nat.blt 0 (0+1))=true:=by simp
  by_cases e:i=q
  · subst e
    have:Nat.beq i i=true:=by simp
    rw [h0,this,if_pos rfl];rfl
  · have : Nat.beq i q = false := (by rw [Bool.eq_false_iff]; intro h; exact e (Nat.eq_of_beq_eq_true h))
    rw [this,if_neg e];rfl
theorem okz_nd {kp sh:List (Nat×HObj)} {g:Nat} {f f':Nat→Nat→HV} (h:∀ j,j < 5→Kz kp sh (f 0 j) (f' 0 j)):OKz kp sh ⟨g,1,5,55,0,f⟩ ⟨g,1,5,55,0,f'⟩:=.of fun i j hi hj=>by
  obtain rfl:i=0:=by omega
  exact h j hj
theorem kz_bl {kp sh:List (Nat×HObj)} {f:HV} {y:Bag} (x:Bag) (hf:f=iListV x.list) (h:x=y):Kz kp sh f (iListV y.list):=by subst hf;subst h;exact .fz _ _ Frz.fz
theorem kz_bo {kp sh:List (Nat×HObj)} {f:HV} {y:Bool} (x:Bool) (hf:f=boolV x) (h:x=y):Kz kp sh f (boolV y):=by subst hf;subst h;exact .fz _ _ (.imm _)
theorem join_first (a b:Pc):(a.join b).first=if a.empty then bun a.first b.first else a.first:=rfl
theorem join_ends (a b:Pc):(a.join b).ends=if b.empty then bun a.ends b.ends else b.ends:=by rw [join_doc]
theorem join_empty (a b:Pc):(a.join b).empty=(a.empty&&b.empty):=rfl
theorem osub_nd {g:Nat} {f f':Nat→Nat→HV} (h0:Sb (f 0 0) (f' 0 0)) (h1:Sb (f 0 1) (f' 0 1)) (h2:Sb (f 0 2) (f' 0 2)) (h3:Sb (f 0 3) (f' 0 3)) (h4:Sb (f 0 4) (f' 0 4)):OSub ⟨g,1,5,55,0,f⟩ ⟨g,1,5,55,0,f'⟩:=OSub.of fun i j hi hj=>by
  obtain rfl:i=0:=by omega
  exact jn5 (P:=fun j=>Sb (f 0 j) (f' 0 j)) h0 h1 h2 h3 h4 j hj
theorem then_h9210 (a b:Pc) (ha:a.ok) (hb:b.ok) (M g3 g4:Nat) (β:Nat→Bag) (hin:∀ p,p < 256→a.ends.has p=true→p < M) (hN:M≤256) :
    HFunD Tryz.prog 96 [.pt 9210 g4 0 0,ndV b] [(9210,ndO g4 nilS (.os 9103 g3 0 M) a),(9103,lrO g3 M β)] (.tup 0 fun _=>default) [(9210,ndO g4 nilS (.os 9103 g3 0 M) (a.join b)),(9103,lrO g3 M (linkF β (a.ends,b.first)))]:=by
  intro c
  let k0:=c
  have hle:=list_le a.ends
  refine hfun_of Tryz.func96 rfl (by kernel_rfl) _ _ _ _ rfl 84 rfl rfl (fun X ok hX=>?_)
  refine srg fun N h1=>?_
  refine hm_1 3 (hop_box (id:=3) (sz:=5) rfl rfl rfl (nb rfl) (nb rfl)) rfl rfl pre0 rfl rfl (c':=c+1) rfl ?_
  refine snl h1 ?_
  refine hw_seq (fun Nh2 h2=>?_)
  refine srg fun N h3=>?_
  refine sa ?_
  refine snl h3 ?_
  refine hw_block ?_
  refine hw_loopc (α:=Nat) (fun x c=>⟨84,[(0,.v (.pt 9210 g4 0 0)),(3,.v (.pt 3 k0 0 0)),(4,.v (intV x))],[(9210,ndO g4 nilS (.os 9103 g3 0 M) a),(9103,lrO g3 M (linkI a.ends b.first β x)),(3,⟨k0,1,5,55,0,ndF nilS nilS b⟩)],c⟩) (fun x=>x≤a.ends.list.length) (fun x=>a.ends.list.length - x) (0) (by omega) (hsub_of rfl (Nat.le_refl _) (tsr rfl (tsr rfl (tsr rfl TmSub.nil))) (hsr rfl (HpSub.cons rfl (OSub.of fun i j hi hj=>by show Sb (iListV (β i).list) (iListV (linkI a.ends b.first β 0 i).list);rw [linkI_zero];exact .refl _) (HpSub.cons rfl (OSub.of fun i j hi hj=>by obtain rfl:i=0:=(by omega);exact jn5 (P:=fun j=>Sb (ndF nilS nilS b 0 j) (ndF nilS nilS b 0 j)) (.refl _) (.refl _) (.refl _) (.refl _) (.refl _) j hj) HpSub.nil)))) (fun i c hx NhL4 hL4=>?_)
  (try dsimp only at hx hL4 ⊢)
  refine hw_seq (fun Nh5 h5=>?_)
  refine srg fun N h6=>?_
  refine sm ?_
  refine sm ?_
  refine sn ?_
  refine sf fd_55_3 ?_
  refine sl ty_25 ?_
  refine s0 (hop_len_sl (T:=25) rfl (elOf_spec el_25).1 rfl) ?_
  refine s0 (hop_lss rfl rfl) ?_
  refine snl h6 ?_
  refine wc (fun hc0=>?_) (fun hc0=>?_)
  · have hr0 := hc0; (try simp only [hcs, Int.reduceToNat] at hc0)
    have hi':i < a.ends.list.length:=(by omega);obtain ⟨q,hq256,hqA,hq⟩:=list_lt a.ends hi';have hqN:=hin q hq256 hqA
    refine hw_skip ?_
    refine h5 _ ?_
    refine hw_seq (fun Nh7 h7=>?_)
    refine hw_block ?_
    refine hd_start ?_
    refine dm 1 ?_
    refine dk 2 ?_
    refine d0 3 (HOp.val (v':=HV.pt 9210 g4 0 1) (hop_fa fd_55_1 rfl) (rfl)) ?_
    refine dl 4 ty_53 ?_
    refine dm 5 ?_
    refine dk 6 ?_
    refine df 7 fd_55_3 ?_
    refine dl 8 ty_25 ?_
    refine dm 9 ?_
    refine d0 10 (hop_ia_sl el_25 rfl rfl (by omega) (by omega) (nb rfl)) ?_
    refine d0 11 (HOp.val (v':=intV (q:Int)) (hop_load_fp ty_3 rfl (nb rfl) (fun h=>(by rfl))) (congrArg intV hq)) ?_
    refine dm 12 ?_
    refine dk 13 ?_
    refine df 14 fd_55_1 ?_
    refine dl 15 ty_53 ?_
    refine dm 16 ?_
    refine dk 17 ?_
    refine df 18 fd_55_3 ?_
    refine dl 19 ty_25 ?_
    refine dm 20 ?_
    refine d0 21 (hop_ia_sl el_25 rfl rfl (by omega) (by omega) (nb rfl)) ?_
    refine d0 22 (HOp.val (v':=intV (q:Int)) (hop_load_fp ty_3 rfl (nb rfl) (fun h=>(by rfl))) (congrArg intV hq)) ?_
    refine hd_q 36 (hol_ia_os el_53 rfl rfl (by omega) (by omega)) rfl rfl (pre1 rfl) rfl rfl (k':=23) rfl ?_
    refine hd_q 37 (hol_load ty_25 rfl (by omega) (nb rfl) (fun h=>(by rfl))) rfl rfl (pre1 rfl) rfl rfl (k':=24) rfl ?_
    refine df 25 fd_55_2 ?_
    refine dl 26 ty_25 ?_
    refine d0 27 (hop_call0 (xs:=[_,_]) (refOr_h (linkI a.ends b.first β i q) b.first) ⟨rfl,⟨rfl,trivial⟩⟩ ⟨(Fz.eq (by rw [Nat.zero_add];rfl)),⟨(Fz.eq rfl),trivial⟩⟩) ?_
    refine hd_q 41 (hol_ia_os el_53 rfl rfl (by omega) (by omega)) rfl rfl (pre1 rfl) rfl rfl (k':=28) rfl ?_
    refine hd_s1 (hol_store ty_25 rfl rfl rfl rfl (by omega) (nb rfl) (nb rfl)) rfl rfl (pre1 rfl) (k':=29) rfl ?_
    refine hd_nil (by kernel_rfl) (by kernel_rfl) (c':=c+29) rfl ?_
    refine hq_block ?_
    refine h7 _ ?_
    refine hw_region ?_
    refine sm ?_
    refine s0 (hop_addi rfl rfl rfl (by omega) (by omega)) ?_
    refine sa ?_
    refine hseq_nil ?_
    exact hL4 (i+1) _ _ (by (try dsimp only);omega) (by (try dsimp only);omega) (hsub_of rfl (Nat.le_refl _) (tsr rfl (tsr rfl (tsr rfl TmSub.nil))) (hsr rfl (HpSub.cons rfl (osub_lrow fun p hp=>upd_lrow.trans (by rw [linkI_succ a.ends b.first β hi' hq,Nat.zero_add];rfl)) (hsr rfl HpSub.nil))))
  have hr0:=hc0;(try simp only [hcs,Int.reduceToNat] at hc0)
  have hie:i=a.ends.list.length:=(by omega)
  refine hw_exit ?_
  refine hq_then_exit ?_
  refine hq_then_exit ?_
  refine hq_block_here ?_
  refine h2 _ ?_
  refine hw_seq (fun Nh8 h8=>?_)
  refine srg fun N h9=>?_
  refine sm ?_
  refine sn ?_
  refine sf fd_55_4 ?_
  refine sl ty_4 ?_
  refine snl h9 ?_
  refine wc (fun hc1=>?_) (fun hc1=>?_)
  · have hr1 := hc1; (try simp only [hcs, Int.reduceToNat] at hc1)
    refine hd_start ?_
    refine dm 1 ?_
    refine dm 2 ?_
    refine dk 3 ?_
    refine df 4 fd_55_2 ?_
    refine dl 5 ty_25 ?_
    refine df 6 fd_55_2 ?_
    refine dl 7 ty_25 ?_
    refine d0 8 (hop_call0 (xs:=[_,_]) (refOr_h a.first b.first) ⟨rfl,⟨rfl,trivial⟩⟩ ⟨(Fz.eq rfl),⟨(Fz.eq rfl),trivial⟩⟩) ?_
    refine dk 9 ?_
    refine df 10 fd_55_2 ?_
    refine hd_s1 (hol_store ty_25 rfl rfl rfl rfl (nb rfl) (nb rfl) (nb rfl)) rfl rfl (pre1 rfl) (k':=11) rfl ?_
    refine hd_nil (by kernel_rfl) (by kernel_rfl) (c':=c+11) rfl ?_
    refine h8 _ ?_
    refine hw_seq (fun Nh10 h10=>?_)
    refine srg fun N h11=>?_
    refine sf fd_55_4 ?_
    refine sl ty_4 ?_
    refine snl h11 ?_
    refine wc (fun hc2=>?_) (fun hc2=>?_)
    · have hr2 := hc2; (try simp only [hcs, Int.reduceToNat] at hc2)
      refine hd_start ?_
      refine dm 1 ?_
      refine dm 2 ?_
      refine dk 3 ?_
      refine df 4 fd_55_3 ?_
      refine dl 5 ty_25 ?_
      refine df 6 fd_55_3 ?_
      refine dl 7 ty_25 ?_
      refine d0 8 (hop_call0 (xs:=[_,_]) (refOr_h a.ends b.ends) ⟨rfl,⟨rfl,trivial⟩⟩ ⟨(Fz.eq rfl),⟨(Fz.eq rfl),trivial⟩⟩) ?_
      refine dk 9 ?_
      refine df 10 fd_55_3 ?_
      refine hd_s1 (hol_store ty_25 rfl rfl rfl rfl (nb rfl) (nb rfl) (nb rfl)) rfl rfl (pre1 rfl) (k':=11) rfl ?_
      refine hd_nil (by kernel_rfl) (by kernel_rfl) (c':=c+22) rfl ?_
      refine h10 _ ?_
      refine hw_region ?_
      refine sm ?_
      refine sm ?_
      refine sn ?_
      refine sf fd_55_4 ?_
      refine sl ty_4 ?_
      refine sm ?_
      refine stg 78 (fun hb=>hop_fa fd_55_4 rfl) rfl rfl rfl rfl rfl ?_
      refine hq_g 80 5 78 true _ (fun hb=>hol_load ty_4 rfl (nb rfl) (nb rfl) (fun h=>(by rfl))) rfl rfl rfl rfl (pre1 rfl) rfl rfl rfl ?_
      refine hq_p 81 (hstep_and _ _ rfl rfl rfl) rfl rfl rfl ?_
      refine sn ?_
      refine sf fd_55_4 ?_
      refine sx (c+23) ty_4 ?_
      refine nu ?_
      refine hq_fall ?_
      refine hf_retR0 ok hX RetS.one rfl  [] rfl pre0 (()) (trivial) (by rfl) (by rfl) (kza) ?_
      exact ⟨⟨_,rfl,(okz_nd (by exact jn5 (.fz _ _ (.imm _)) (.os _ _ _ _ _ rfl rfl) (kz_bl (bun a.first b.first) rfl (by rw [join_first];simp [hc1])) (kz_bl (bun a.ends b.ends) rfl (by rw [join_ends];simp [hc2])) (kz_bo (a.empty&&b.empty) rfl (join_empty a b).symm)))⟩,⟨⟨_,rfl,(okz_lrow (fun p hp=>by rw [hie];exact linkI_end _ _ _ (by omega)))⟩,trivial⟩⟩
    have hr2:=hc2;(try simp only [hcs,Int.reduceToNat] at hc2)
    refine hw_region ?_
    refine sm ?_
    refine sf fd_55_3 ?_
    refine sl ty_25 ?_
    refine sn ?_
    refine sf fd_55_3 ?_
    refine sx (c+12) ty_25 ?_
    refine snl h10 ?_
    refine hw_region ?_
    refine sm ?_
    refine sm ?_
    refine sn ?_
    refine sf fd_55_4 ?_
    refine sl ty_4 ?_
    refine sm ?_
    refine stg 78 (fun hb=>hop_fa fd_55_4 rfl) rfl rfl rfl rfl rfl ?_
    refine hq_g 80 5 78 true _ (fun hb=>hol_load ty_4 rfl (nb rfl) (nb rfl) (fun h=>(by rfl))) rfl rfl rfl rfl (pre1 rfl) rfl rfl rfl ?_
    refine hq_p 81 (hstep_and _ _ rfl rfl rfl) rfl rfl rfl ?_
    refine sn ?_
    refine sf fd_55_4 ?_
    refine sx (c+13) ty_4 ?_
    refine nu ?_
    refine hq_fall ?_
    refine hf_retR0 ok hX RetS.one rfl  [] rfl pre0 (()) (trivial) (by rfl) (by rfl) (kza) ?_
    exact ⟨⟨_,rfl,(okz_nd (by exact jn5 (.fz _ _ (.imm _)) (.os _ _ _ _ _ rfl rfl) (kz_bl (bun a.first b.first) rfl (by rw [join_first];simp [hc1])) (kz_bl (b.ends) rfl (by rw [join_ends];simp [hc2])) (kz_bo (a.empty&&b.empty) rfl (join_empty a b).symm)))⟩,⟨⟨_,rfl,(okz_lrow (fun p hp=>by rw [hie];exact linkI_end _ _ _ (by omega)))⟩,trivial⟩⟩
  have hr1:=hc1;(try simp only [hcs,Int.reduceToNat] at hc1)
  refine hw_skip ?_
  refine h8 _ ?_
  refine hw_seq (fun Nh12 h12=>?_)
  refine srg fun N h13=>?_
  refine sf fd_55_4 ?_
  refine sl ty_4 ?_
  refine snl h13 ?_
  refine wc (fun hc2=>?_) (fun hc2=>?_)
  · have hr2 := hc2; (try simp only [hcs, Int.reduceToNat] at hc2)
    refine hd_start ?_
    refine dm 1 ?_
    refine dm 2 ?_
    refine dk 3 ?_
    refine df 4 fd_55_3 ?_
    refine dl 5 ty_25 ?_
    refine df 6 fd_55_3 ?_
    refine dl 7 ty_25 ?_
    refine d0 8 (hop_call0 (xs:=[_,_]) (refOr_h a.ends b.ends) ⟨rfl,⟨rfl,trivial⟩⟩ ⟨(Fz.eq rfl),⟨(Fz.eq rfl),trivial⟩⟩) ?_
    refine dk 9 ?_
    refine df 10 fd_55_3 ?_
    refine hd_s1 (hol_store ty_25 rfl rfl rfl rfl (nb rfl) (nb rfl) (nb rfl)) rfl rfl (pre1 rfl) (k':=11) rfl ?_
    refine hd_nil (by kernel_rfl) (by kernel_rfl) (c':=c+11) rfl ?_
    refine h12 _ ?_
    refine hw_region ?_
    refine sm ?_
    refine sm ?_
    refine sn ?_
    refine sf fd_55_4 ?_
    refine sl ty_4 ?_
    refine sm ?_
    refine stg 78 (fun hb=>hop_fa fd_55_4 rfl) rfl rfl rfl rfl rfl ?_
    refine hq_g 80 5 78 true _ (fun hb=>hol_load ty_4 rfl (nb rfl) (nb rfl) (fun h=>(by rfl))) rfl rfl rfl rfl (pre1 rfl) rfl rfl rfl ?_
    refine hq_p 81 (hstep_and _ _ rfl rfl rfl) rfl rfl rfl ?_
    refine sn ?_
    refine sf fd_55_4 ?_
    refine sx (c+12) ty_4 ?_
    refine nu ?_
    refine hq_fall ?_
    refine hf_retR0 ok hX RetS.one rfl  [] rfl pre0 (()) (trivial) (by rfl) (by rfl) (kza) ?_
    exact ⟨⟨_,rfl,(okz_nd (by exact jn5 (.fz _ _ (.imm _)) (.os _ _ _ _ _ rfl rfl) (kz_bl (a.first) rfl (by rw [join_first];simp [hc1])) (kz_bl (bun a.ends b.ends) rfl (by rw [join_ends];simp [hc2])) (kz_bo (a.empty&&b.empty) rfl (join_empty a b).symm)))⟩,⟨⟨_,rfl,(okz_lrow (fun p hp=>by rw [hie];exact linkI_end _ _ _ (by omega)))⟩,trivial⟩⟩
  have hr2:=hc2;(try simp only [hcs,Int.reduceToNat] at hc2)
  refine hw_region ?_
  refine sm ?_
  refine sf fd_55_3 ?_
  refine sl ty_25 ?_
  refine sn ?_
  refine sf fd_55_3 ?_
  refine sx (c+1) ty_25 ?_
  refine snl h12 ?_
  refine hw_region ?_
  refine sm ?_
  refine sm ?_
  refine sn ?_
  refine sf fd_55_4 ?_
  refine sl ty_4 ?_
  refine sm ?_
  refine stg 78 (fun hb=>hop_fa fd_55_4 rfl) rfl rfl rfl rfl rfl ?_
  refine hq_g 80 5 78 true _ (fun hb=>hol_load ty_4 rfl (nb rfl) (nb rfl) (fun h=>(by rfl))) rfl rfl rfl rfl (pre1 rfl) rfl rfl rfl ?_
  refine hq_p 81 (hstep_and _ _ rfl rfl rfl) rfl rfl rfl ?_
  refine sn ?_
  refine sf fd_55_4 ?_
  refine sx (c+2) ty_4 ?_
  refine nu ?_
  refine hq_fall ?_
  refine hf_retR0 ok hX RetS.one rfl  [] rfl pre0 (()) (trivial) (by rfl) (by rfl) (kza) ?_
  exact ⟨⟨_,rfl,(okz_nd (by exact jn5 (.fz _ _ (.imm _)) (.os _ _ _ _ _ rfl rfl) (kz_bl (a.first) rfl (by rw [join_first];simp [hc1])) (kz_bl (b.ends) rfl (by rw [join_ends];simp [hc2])) (kz_bo (a.empty&&b.empty) rfl (join_empty a b).symm)))⟩,⟨⟨_,rfl,(okz_lrow (fun p hp=>by rw [hie];exact linkI_end _ _ _ (by omega)))⟩,trivial⟩⟩
theorem seq_h9210 (a b:Pc) (ha:a.ok) (hb:b.ok) (M g1 g2 g3 g4:Nat) (ρ β:Nat→Bag) (p0:Pc) (hin:∀ p,p < 256→a.ends.has p=true→p < M) (hN:M≤256) :
    HFunD Tryz.prog 76 [.pt 9101 g1 0 0,.pt 9210 g4 0 0,ndV b] [(9101,ndO g1 (.os 9102 g2 0 M) (.os 9103 g3 0 M) p0),(9102,lrO g2 M ρ),(9103,lrO g3 M β),(9210,ndO g4 nilS nilS a)] (.tup 0 fun _=>default) [(9101,ndO g1 (.os 9102 g2 0 M) (.os 9103 g3 0 M) p0),(9102,lrO g2 M ρ),(9103,lrO g3 M (linkF β (a.ends,b.first))),(9210,ndO g4 nilS nilS (a.join b))]:=by
  intro c
  let k0:=c
  refine hfun_of Tryz.func76 rfl (by kernel_rfl) _ _ _ _ rfl 19 rfl rfl (fun X ok hX=>?_)
  refine srg fun N h1=>?_
  refine hm_1 5 (hop_box (id:=5) (sz:=5) rfl rfl rfl (nb rfl) (nb rfl)) rfl rfl pre0 rfl rfl (c':=c+1) rfl ?_
  refine snl h1 ?_
  refine srg fun N h2=>?_
  refine sm ?_
  refine sm ?_
  refine sn ?_
  refine sf fd_55_1 ?_
  refine sl ty_53 ?_
  refine sn ?_
  refine sf fd_55_1 ?_
  refine sx (c+2) ty_53 ?_
  refine snl h2 ?_
  refine hw_seq (fun Nh3 h3=>?_)
  refine (hsub_ob 9210 (ndO g4 nilS (.os 9103 g3 0 M) a) rfl (by exact osub_nd (.refl _) (.refl _) (.refl _) (.refl _) (.refl _))).wp ?_
  refine hw_region ?_
  refine sm ?_
  refine st1 (HOp.val (v':=ndV b) (hol_load ty_55 rfl (nb rfl) (nb rfl) (fun h=>(by cases h))) (rfl)) rfl rfl rfl ?_
  refine hm_ 15 (hop_funD (xs:=[_,_]) (pre:=[(9210,_),(9103,_)]) (then_h9210 a b ha hb M g3 g4 β hin hN) ((clocks_cons (.head _) rfl (clocks_cons (.tail _ (.head _)) rfl clocks_nil))) ⟨rfl,⟨rfl,trivial⟩⟩) rfl rfl (preC rfl (preC rfl pre0)) rfl rfl (c':=c+3) rfl ?_
  refine snl h3 ?_
  refine hw_region ?_
  refine sm ?_
  refine sn ?_
  refine sf fd_55_1 ?_
  refine sx (c+4) ty_53 ?_
  refine hseq_nil ?_
  refine hq_fall ?_
  refine hf_retR0 ok hX RetS.one rfl  [] rfl pre0 (()) (trivial) (by rfl) (by rfl) (kza) ?_
  exact ⟨⟨_,rfl,(okz_nd (by exact jn5 (.os _ _ _ _ _ rfl rfl) (.os _ _ _ _ _ rfl rfl) (kz_bl p0.first rfl rfl) (kz_bl p0.ends rfl rfl) (kz_bo p0.empty rfl rfl)))⟩,⟨⟨_,rfl,(okz_lrow (fun _ _=>rfl))⟩,⟨⟨_,rfl,(okz_lrow (fun _ _=>rfl))⟩,⟨⟨_,rfl,(okz_nd (by exact jn5 (.fz _ _ (.imm _)) (.fz _ _ (.imm _)) (kz_bl (a.join b).first rfl rfl) (kz_bl (a.join b).ends rfl rfl) (kz_bo (a.join b).empty rfl rfl)))⟩,trivial⟩⟩⟩⟩
theorem then_h9224 (a b:Pc) (ha:a.ok) (hb:b.ok) (M g3 g4:Nat) (β:Nat→Bag) (hin:∀ p,p < 256→a.ends.has p=true→p < M) (hN:M≤256) :
    HFunD Tryz.prog 96 [.pt 9224 g4 0 0,ndV b] [(9224,ndO g4 nilS (.os 9103 g3 0 M) a),(9103,lrO g3 M β)] (.tup 0 fun _=>default) [(9224,ndO g4 nilS (.os 9103 g3 0 M) (a.join b)),(9103,lrO g3 M (linkF β (a.ends,b.first)))]:=by
  intro c
  let k0:=c
  have hle:=list_le a.ends
  refine hfun_of Tryz.func96 rfl (by kernel_rfl) _ _ _ _ rfl 84 rfl rfl (fun X ok hX=>?_)
  refine srg fun N h1=>?_
  refine hm_1 3 (hop_box (id:=3) (sz:=5) rfl rfl rfl (nb rfl) (nb rfl)) rfl rfl pre0 rfl rfl (c':=c+1) rfl ?_
  refine snl h1 ?_
  refine hw_seq (fun Nh2 h2=>?_)
  refine srg fun N h3=>?_
  refine sa ?_
  refine snl h3 ?_
  refine hw_block ?_
  refine hw_loopc (α:=Nat) (fun x c=>⟨84,[(0,.v (.pt 9224 g4 0 0)),(3,.v (.pt 3 k0 0 0)),(4,.v (intV x))],[(9224,ndO g4 nilS (.os 9103 g3 0 M) a),(9103,lrO g3 M (linkI a.ends b.first β x)),(3,⟨k0,1,5,55,0,ndF nilS nilS b⟩)],c⟩) (fun x=>x≤a.ends.list.length) (fun x=>a.ends.list.length - x) (0) (by omega) (hsub_of rfl (Nat.le_refl _) (tsr rfl (tsr rfl (tsr rfl TmSub.nil))) (hsr rfl (HpSub.cons rfl (OSub.of fun i j hi hj=>by show Sb (iListV (β i).list) (iListV (linkI a.ends b.first β 0 i).list);rw [linkI_zero];exact .refl _) (HpSub.cons rfl (OSub.of fun i j hi hj=>by obtain rfl:i=0:=(by omega);exact jn5 (P:=fun j=>Sb (ndF nilS nilS b 0 j) (ndF nilS nilS b 0 j)) (.refl _) (.refl _) (.refl _) (.refl _) (.refl _) j hj) HpSub.nil)))) (fun i c hx NhL4 hL4=>?_)
  (try dsimp only at hx hL4 ⊢)
  refine hw_seq (fun Nh5 h5=>?_)
  refine srg fun N h6=>?_
  refine sm ?_
  refine sm ?_
  refine sn ?_
  refine sf fd_55_3 ?_
  refine sl ty_25 ?_
  refine s0 (hop_len_sl (T:=25) rfl (elOf_spec el_25).1 rfl) ?_
  refine s0 (hop_lss rfl rfl) ?_
  refine snl h6 ?_
  refine wc (fun hc0=>?_) (fun hc0=>?_)
  · have hr0 := hc0; (try simp only [hcs, Int.reduceToNat] at hc0)
    have hi':i < a.ends.list.length:=(by omega);obtain ⟨q,hq256,hqA,hq⟩:=list_lt a.ends hi';have hqN:=hin q hq256 hqA
    refine hw_skip ?_
    refine h5 _ ?_
    refine hw_seq (fun Nh7 h7=>?_)
    refine hw_block ?_
    refine hd_start ?_
    refine dm 1 ?_
    refine dk 2 ?_
    refine d0 3 (HOp.val (v':=HV.pt 9224 g4 0 1) (hop_fa fd_55_1 rfl) (rfl)) ?_
    refine dl 4 ty_53 ?_
    refine dm 5 ?_
    refine dk 6 ?_
    refine df 7 fd_55_3 ?_
    refine dl 8 ty_25 ?_
    refine dm 9 ?_
    refine d0 10 (hop_ia_sl el_25 rfl rfl (by omega) (by omega) (nb rfl)) ?_
    refine d0 11 (HOp.val (v':=intV (q:Int)) (hop_load_fp ty_3 rfl (nb rfl) (fun h=>(by rfl))) (congrArg intV hq)) ?_
    refine dm 12 ?_
    refine dk 13 ?_
    refine df 14 fd_55_1 ?_
    refine dl 15 ty_53 ?_
    refine dm 16 ?_
    refine dk 17 ?_
    refine df 18 fd_55_3 ?_
    refine dl 19 ty_25 ?_
    refine dm 20 ?_
    refine d0 21 (hop_ia_sl el_25 rfl rfl (by omega) (by omega) (nb rfl)) ?_
    refine d0 22 (HOp.val (v':=intV (q:Int)) (hop_load_fp ty_3 rfl (nb rfl) (fun h=>(by rfl))) (congrArg intV hq)) ?_
    refine hd_q 36 (hol_ia_os el_53 rfl rfl (by omega) (by omega)) rfl rfl (pre1 rfl) rfl rfl (k':=23) rfl ?_
    refine hd_q 37 (hol_load ty_25 rfl (by omega) (nb rfl) (fun h=>(by rfl))) rfl rfl (pre1 rfl) rfl rfl (k':=24) rfl ?_
    refine df 25 fd_55_2 ?_
    refine dl 26 ty_25 ?_
    refine d0 27 (hop_call0 (xs:=[_,_]) (refOr_h (linkI a.ends b.first β i q) b.first) ⟨rfl,⟨rfl,trivial⟩⟩ ⟨(Fz.eq (by rw [Nat.zero_add];rfl)),⟨(Fz.eq rfl),trivial⟩⟩) ?_
    refine hd_q 41 (hol_ia_os el_53 rfl rfl (by omega) (by omega)) rfl rfl (pre1 rfl) rfl rfl (k':=28) rfl ?_
    refine hd_s1 (hol_store ty_25 rfl rfl rfl rfl (by omega) (nb rfl) (nb rfl)) rfl rfl (pre1 rfl) (k':=29) rfl ?_
    refine hd_nil (by kernel_rfl) (by kernel_rfl) (c':=c+29) rfl ?_
    refine hq_block ?_
    refine h7 _ ?_
    refine hw_region ?_
    refine sm ?_
    refine s0 (hop_addi rfl rfl rfl (by omega) (by omega)) ?_
    refine sa ?_
    refine hseq_nil ?_
    exact hL4 (i+1) _ _ (by (try dsimp only);omega) (by (try dsimp only);omega) (hsub_of rfl (Nat.le_refl _) (tsr rfl (tsr rfl (tsr rfl TmSub.nil))) (hsr rfl (HpSub.cons rfl (osub_lrow fun p hp=>upd_lrow.trans (by rw [linkI_succ a.ends b.first β hi' hq,Nat.zero_add];rfl)) (hsr rfl HpSub.nil))))
  have hr0:=hc0;(try simp only [hcs,Int.reduceToNat] at hc0)
  have hie:i=a.ends.list.length:=(by omega)
  refine hw_exit ?_
  refine hq_then_exit ?_
  refine hq_then_exit ?_
  refine hq_block_here ?_
  refine h2 _ ?_
  refine hw_seq (fun Nh8 h8=>?_)
  refine srg fun N h9=>?_
  refine sm ?_
  refine sn ?_
  refine sf fd_55_4 ?_
  refine sl ty_4 ?_
  refine snl h9 ?_
  refine wc (fun hc1=>?_) (fun hc1=>?_)
  · have hr1 := hc1; (try simp only [hcs, Int.reduceToNat] at hc1)
    refine hd_start ?_
    refine dm 1 ?_
    refine dm 2 ?_
    refine dk 3 ?_
    refine df 4 fd_55_2 ?_
    refine dl 5 ty_25 ?_
    refine df 6 fd_55_2 ?_
    refine dl 7 ty_25 ?_
    refine d0 8 (hop_call0 (xs:=[_,_]) (refOr_h a.first b.first) ⟨rfl,⟨rfl,trivial⟩⟩ ⟨(Fz.eq rfl),⟨(Fz.eq rfl),trivial⟩⟩) ?_
    refine dk 9 ?_
    refine df 10 fd_55_2 ?_
    refine hd_s1 (hol_store ty_25 rfl rfl rfl rfl (nb rfl) (nb rfl) (nb rfl)) rfl rfl (pre1 rfl) (k':=11) rfl ?_
    refine hd_nil (by kernel_rfl) (by kernel_rfl) (c':=c+11) rfl ?_
    refine h8 _ ?_
    refine hw_seq (fun Nh10 h10=>?_)
    refine srg fun N h11=>?_
    refine sf fd_55_4 ?_
    refine sl ty_4 ?_
    refine snl h11 ?_
    refine wc (fun hc2=>?_) (fun hc2=>?_)
    · have hr2 := hc2; (try simp only [hcs, Int.reduceToNat] at hc2)
      refine hd_start ?_
      refine dm 1 ?_
      refine dm 2 ?_
      refine dk 3 ?_
      refine df 4 fd_55_3 ?_
      refine dl 5 ty_25 ?_
      refine df 6 fd_55_3 ?_
      refine dl 7 ty_25 ?_
      refine d0 8 (hop_call0 (xs:=[_,_]) (refOr_h a.ends b.ends) ⟨rfl,⟨rfl,trivial⟩⟩ ⟨(Fz.eq rfl),⟨(Fz.eq rfl),trivial⟩⟩) ?_
      refine dk 9 ?_
      refine df 10 fd_55_3 ?_
      refine hd_s1 (hol_store ty_25 rfl rfl rfl rfl (nb rfl) (nb rfl) (nb rfl)) rfl rfl (pre1 rfl) (k':=11) rfl ?_
      refine hd_nil (by kernel_rfl) (by kernel_rfl) (c':=c+22) rfl ?_
      refine h10 _ ?_
      refine hw_region ?_
      refine sm ?_
      refine sm ?_
      refine sn ?_
      refine sf fd_55_4 ?_
      refine sl ty_4 ?_
      refine sm ?_
      refine stg 78 (fun hb=>hop_fa fd_55_4 rfl) rfl rfl rfl rfl rfl ?_
      refine hq_g 80 5 78 true _ (fun hb=>hol_load ty_4 rfl (nb rfl) (nb rfl) (fun h=>(by rfl))) rfl rfl rfl rfl (pre1 rfl) rfl rfl rfl ?_
      refine hq_p 81 (hstep_and _ _ rfl rfl rfl) rfl rfl rfl ?_
      refine sn ?_
      refine sf fd_55_4 ?_
      refine sx (c+23) ty_4 ?_
      refine nu ?_
      refine hq_fall ?_
      refine hf_retR0 ok hX RetS.one rfl  [] rfl pre0 (()) (trivial) (by rfl) (by rfl) (kza) ?_
      exact ⟨⟨_,rfl,(okz_nd (by exact jn5 (.fz _ _ (.imm _)) (.os _ _ _ _ _ rfl rfl) (kz_bl (bun a.first b.first) rfl (by rw [join_first];simp [hc1])) (kz_bl (bun a.ends b.ends) rfl (by rw [join_ends];simp [hc2])) (kz_bo (a.empty&&b.empty) rfl (join_empty a b).symm)))⟩,⟨⟨_,rfl,(okz_lrow (fun p hp=>by rw [hie];exact linkI_end _ _ _ (by omega)))⟩,trivial⟩⟩
    have hr2:=hc2;(try simp only [hcs,Int.reduceToNat] at hc2)
    refine hw_region ?_
    refine sm ?_
    refine sf fd_55_3 ?_
    refine sl ty_25 ?_
    refine sn ?_
    refine sf fd_55_3 ?_
    refine sx (c+12) ty_25 ?_
    refine snl h10 ?_
    refine hw_region ?_
    refine sm ?_
    refine sm ?_
    refine sn ?_
    refine sf fd_55_4 ?_
    refine sl ty_4 ?_
    refine sm ?_
    refine stg 78 (fun hb=>hop_fa fd_55_4 rfl) rfl rfl rfl rfl rfl ?_
    refine hq_g 80 5 78 true _ (fun hb=>hol_load ty_4 rfl (nb rfl) (nb rfl) (fun h=>(by rfl))) rfl rfl rfl rfl (pre1 rfl) rfl rfl rfl ?_
    refine hq_p 81 (hstep_and _ _ rfl rfl rfl) rfl rfl rfl ?_
    refine sn ?_
    refine sf fd_55_4 ?_
    refine sx (c+13) ty_4 ?_
    refine nu ?_
    refine hq_fall ?_
    refine hf_retR0 ok hX RetS.one rfl  [] rfl pre0 (()) (trivial) (by rfl) (by rfl) (kza) ?_
    exact ⟨⟨_,rfl,(okz_nd (by exact jn5 (.fz _ _ (.imm _)) (.os _ _ _ _ _ rfl rfl) (kz_bl (bun a.first b.first) rfl (by rw [join_first];simp [hc1])) (kz_bl (b.ends) rfl (by rw [join_ends];simp [hc2])) (kz_bo (a.empty&&b.empty) rfl (join_empty a b).symm)))⟩,⟨⟨_,rfl,(okz_lrow (fun p hp=>by rw [hie];exact linkI_end _ _ _ (by omega)))⟩,trivial⟩⟩
  have hr1:=hc1;(try simp only [hcs,Int.reduceToNat] at hc1)
  refine hw_skip ?_
  refine h8 _ ?_
  refine hw_seq (fun Nh12 h12=>?_)
  refine srg fun N h13=>?_
  refine sf fd_55_4 ?_
  refine sl ty_4 ?_
  refine snl h13 ?_
  refine wc (fun hc2=>?_) (fun hc2=>?_)
  · have hr2 := hc2; (try simp only [hcs, Int.reduceToNat] at hc2)
    refine hd_start ?_
    refine dm 1 ?_
    refine dm 2 ?_
    refine dk 3 ?_
    refine df 4 fd_55_3 ?_
    refine dl 5 ty_25 ?_
    refine df 6 fd_55_3 ?_
    refine dl 7 ty_25 ?_
    refine d0 8 (hop_call0 (xs:=[_,_]) (refOr_h a.ends b.ends) ⟨rfl,⟨rfl,trivial⟩⟩ ⟨(Fz.eq rfl),⟨(Fz.eq rfl),trivial⟩⟩) ?_
    refine dk 9 ?_
    refine df 10 fd_55_3 ?_
    refine hd_s1 (hol_store ty_25 rfl rfl rfl rfl (nb rfl) (nb rfl) (nb rfl)) rfl rfl (pre1 rfl) (k':=11) rfl ?_
    refine hd_nil (by kernel_rfl) (by kernel_rfl) (c':=c+11) rfl ?_
    refine h12 _ ?_
    refine hw_region ?_
    refine sm ?_
    refine sm ?_
    refine sn ?_
    refine sf fd_55_4 ?_
    refine sl ty_4 ?_
    refine sm ?_
    refine stg 78 (fun hb=>hop_fa fd_55_4 rfl) rfl rfl rfl rfl rfl ?_
    refine hq_g 80 5 78 true _ (fun hb=>hol_load ty_4 rfl (nb rfl) (nb rfl) (fun h=>(by rfl))) rfl rfl rfl rfl (pre1 rfl) rfl rfl rfl ?_
    refine hq_p 81 (hstep_and _ _ rfl rfl rfl) rfl rfl rfl ?_
    refine sn ?_
    refine sf fd_55_4 ?_
    refine sx (c+12) ty_4 ?_
    refine nu ?_
    refine hq_fall ?_
    refine hf_retR0 ok hX RetS.one rfl  [] rfl pre0 (()) (trivial) (by rfl) (by rfl) (kza) ?_
    exact ⟨⟨_,rfl,(okz_nd (by exact jn5 (.fz _ _ (.imm _)) (.os _ _ _ _ _ rfl rfl) (kz_bl (a.first) rfl (by rw [join_first];simp [hc1])) (kz_bl (bun a.ends b.ends) rfl (by rw [join_ends];simp [hc2])) (kz_bo (a.empty&&b.empty) rfl (join_empty a b).symm)))⟩,⟨⟨_,rfl,(okz_lrow (fun p hp=>by rw [hie];exact linkI_end _ _ _ (by omega)))⟩,trivial⟩⟩
  have hr2:=hc2;(try simp only [hcs,Int.reduceToNat] at hc2)
  refine hw_region ?_
  refine sm ?_
  refine sf fd_55_3 ?_
  refine sl ty_25 ?_
  refine sn ?_
  refine sf fd_55_3 ?_
  refine sx (c+1) ty_25 ?_
  refine snl h12 ?_
  refine hw_region ?_
  refine sm ?_
  refine sm ?_
  refine sn ?_
  refine sf fd_55_4 ?_
  refine sl ty_4 ?_
  refine sm ?_
  refine stg 78 (fun hb=>hop_fa fd_55_4 rfl) rfl rfl rfl rfl rfl ?_
  refine hq_g 80 5 78 true _ (fun hb=>hol_load ty_4 rfl (nb rfl) (nb rfl) (fun h=>(by rfl))) rfl rfl rfl rfl (pre1 rfl) rfl rfl rfl ?_
  refine hq_p 81 (hstep_and _ _ rfl rfl rfl) rfl rfl rfl ?_
  refine sn ?_
  refine sf fd_55_4 ?_
  refine sx (c+2) ty_4 ?_
  refine nu ?_
  refine hq_fall ?_
  refine hf_retR0 ok hX RetS.one rfl  [] rfl pre0 (()) (trivial) (by rfl) (by rfl) (kza) ?_
  exact ⟨⟨_,rfl,(okz_nd (by exact jn5 (.fz _ _ (.imm _)) (.os _ _ _ _ _ rfl rfl) (kz_bl (a.first) rfl (by rw [join_first];simp [hc1])) (kz_bl (b.ends) rfl (by rw [join_ends];simp [hc2])) (kz_bo (a.empty&&b.empty) rfl (join_empty a b).symm)))⟩,⟨⟨_,rfl,(okz_lrow (fun p hp=>by rw [hie];exact linkI_end _ _ _ (by omega)))⟩,trivial⟩⟩
theorem seq_h9224 (a b:Pc) (ha:a.ok) (hb:b.ok) (M g1 g2 g3 g4:Nat) (ρ β:Nat→Bag) (p0:Pc) (hin:∀ p,p < 256→a.ends.has p=true→p < M) (hN:M≤256) :
    HFunD Tryz.prog 76 [.pt 9101 g1 0 0,.pt 9224 g4 0 0,ndV b] [(9101,ndO g1 (.os 9102 g2 0 M) (.os 9103 g3 0 M) p0),(9102,lrO g2 M ρ),(9103,lrO g3 M β),(9224,ndO g4 nilS nilS a)] (.tup 0 fun _=>default) [(9101,ndO g1 (.os 9102 g2 0 M) (.os 9103 g3 0 M) p0),(9102,lrO g2 M ρ),(9103,lrO g3 M (linkF β (a.ends,b.first))),(9224,ndO g4 nilS nilS (a.join b))]:=by
  intro c
  let k0:=c
  refine hfun_of Tryz.func76 rfl (by kernel_rfl) _ _ _ _ rfl 19 rfl rfl (fun X ok hX=>?_)
  refine srg fun N h1=>?_
  refine hm_1 5 (hop_box (id:=5) (sz:=5) rfl rfl rfl (nb rfl) (nb rfl)) rfl rfl pre0 rfl rfl (c':=c+1) rfl ?_
  refine snl h1 ?_
  refine srg fun N h2=>?_
  refine sm ?_
  refine sm ?_
  refine sn ?_
  refine sf fd_55_1 ?_
  refine sl ty_53 ?_
  refine sn ?_
  refine sf fd_55_1 ?_
  refine sx (c+2) ty_53 ?_
  refine snl h2 ?_
  refine hw_seq (fun Nh3 h3=>?_)
  refine (hsub_ob 9224 (ndO g4 nilS (.os 9103 g3 0 M) a) rfl (by exact osub_nd (.refl _) (.refl _) (.refl _) (.refl _) (.refl _))).wp ?_
  refine hw_region ?_
  refine sm ?_
  refine st1 (HOp.val (v':=ndV b) (hol_load ty_55 rfl (nb rfl) (nb rfl) (fun h=>(by cases h))) (rfl)) rfl rfl rfl ?_
  refine hm_ 15 (hop_funD (xs:=[_,_]) (pre:=[(9224,_),(9103,_)]) (then_h9224 a b ha hb M g3 g4 β hin hN) ((clocks_cons (.head _) rfl (clocks_cons (.tail _ (.head _)) rfl clocks_nil))) ⟨rfl,⟨rfl,trivial⟩⟩) rfl rfl (preC rfl (preC rfl pre0)) rfl rfl (c':=c+3) rfl ?_
  refine snl h3 ?_
  refine hw_region ?_
  refine sm ?_
  refine sn ?_
  refine sf fd_55_1 ?_
  refine sx (c+4) ty_53 ?_
  refine hseq_nil ?_
  refine hq_fall ?_
  refine hf_retR0 ok hX RetS.one rfl  [] rfl pre0 (()) (trivial) (by rfl) (by rfl) (kza) ?_
  exact ⟨⟨_,rfl,(okz_nd (by exact jn5 (.os _ _ _ _ _ rfl rfl) (.os _ _ _ _ _ rfl rfl) (kz_bl p0.first rfl rfl) (kz_bl p0.ends rfl rfl) (kz_bo p0.empty rfl rfl)))⟩,⟨⟨_,rfl,(okz_lrow (fun _ _=>rfl))⟩,⟨⟨_,rfl,(okz_lrow (fun _ _=>rfl))⟩,⟨⟨_,rfl,(okz_nd (by exact jn5 (.fz _ _ (.imm _)) (.fz _ _ (.imm _)) (kz_bl (a.join b).first rfl rfl) (kz_bl (a.join b).ends rfl rfl) (kz_bo (a.join b).empty rfl rfl)))⟩,trivial⟩⟩⟩⟩
@[reducible] def netD (g1 g2 g3 M:Nat) (on:List Bag) (β:Nat→Bag) (p0:Pc):List (Nat×HObj):=[(9101,ndO g1 (.os 9102 g2 0 M) (.os 9103 g3 0 M) p0),(9102,lrO g2 M (onF on)),(9103,lrO g3 M β)]
def LayD (l:List Mn) (e:List Pt) (b:Nat) (t:T):Prop:=∀ (c g1 g2 g3 M:Nat) (on:List Bag) (β:Nat→Bag) (p0:Pc),on.length=M→M+t.w≤256→(∀ p,(β p).ok)→(∀ p,M≤p→p < 256→β p=Bag.zero) →
  HFun Tryz.prog 56 c [.pt 9101 g1 0 0,ptsV e,intV ((b+t.size - 1:Nat):Int),mnsV l] (netD g1 g2 g3 M on β p0) (RetP (fun (y:Nat×Nat) _=>True) (fun _=>ndV (lay (meansV l) t M).pc) (fun y=>netD g1 y.1 y.2 (M+t.w) (on++(lay (meansV l) t M).on) (links β (lay (meansV l) t M).lk) p0))
theorem single_list (n:Nat) (hn:n < 256):(single n).list=[(n:Int)]:=by
  rw [Bag.list_eq]
  have:(List.range 256).filter (single n).has=[n]:=by
    have h:(List.range 256).filter (single n).has=(List.range 256).filter (fun k=>k == n):=by
      apply List.filter_congr
      intro k hk
      rw [single_has n k (List.mem_range.1 hk)]
      by_cases e:k=n <;> simp [e]
    rw [h,List.filter_beq,List.count_range]
    simp [hn]
  rw [this];rfl
theorem sb_zl:Sb nilS (iListV Bag.zero.list):=by rw [zero_list];exact .nil 0 1 _ (by decide) none
theorem osub_nd0 {g:Nat} {f:Nat→Nat→HV} {p:Pc} (h0:f 0 0=nilS) (h1:f 0 1=nilS) (h2:f 0 2=nilS) (h3:f 0 3=nilS) (h4:f 0 4=boolV p.empty) (h5:p.first=Bag.zero) (h6:p.ends=Bag.zero):OSub ⟨g,1,5,55,0,f⟩ (ndO g nilS nilS p):=by
  refine osub_nd ?_ ?_ ?_ ?_ ?_
  · rw [h0];exact .refl _
  · rw [h1];exact .refl _
  · rw [h2];show Sb nilS (iListV p.first.list);rw [h5];exact sb_zl
  · rw [h3];show Sb nilS (iListV p.ends.list);rw [h6];exact sb_zl
  · rw [h4];exact .refl _
theorem osub_ndv {g:Nat} {f:Nat→Nat→HV} {p:Pc} (h:∀ j,j < 5→f 0 j=ndF nilS nilS p 0 j):OSub ⟨g,1,5,55,0,f⟩ (ndO g nilS nilS p):=OSub.of fun i j hi hj=>by
  obtain rfl:i=0:=by omega
  rw [h j hj];exact .refl _
theorem kz_nd {kp sh:List (Nat×HObj)} {f:Nat→HV} {p:Pc} (h:∀ j,j < 5→f j=ndF nilS nilS p 0 j):Kz kp sh (.agg 5 f) (ndV p):=.fz _ _ (.agg _ _ _ fun j hj=>by rw [h j hj];exact fz_ndF p j)
theorem okz_netD {kp sh:List (Nat×HObj)} {g1 g2 g3 M:Nat} {o2 o3:HObj} {p0:Pc} (h2:hget kp 9102=some o2) (e2:o2.g=g2) (h3:hget kp 9103=some o3) (e3:o3.g=g3):OKz kp sh (ndO g1 (.os 9102 g2 0 M) (.os 9103 g3 0 M) p0) (ndO g1 (.os 9102 g2 0 M) (.os 9103 g3 0 M) p0) :=
  okz_nd (by exact jn5 (.os _ _ _ _ _ h2 e2) (.os _ _ _ _ _ h3 e3) (kz_bl p0.first rfl rfl) (kz_bl p0.ends rfl rfl) (kz_bo p0.empty rfl rfl))
@[reducible] def ndsF (l:List Pc):Nat→Nat→HV:=fun i=>ndF nilS nilS (l.getD i default) 0
theorem clkS {i:Nat} {o1 o2 o3 o4 p1 p2 p3 p4:HObj} (h1:p1.g=o1.g) (h2:p2.g=o2.g) (h3:p3.g=o3.g) (h4:p4.g=o4.g):Clocks [(9101,o1),(9102,o2),(9103,o3),(i,o4)] [(9101,p1),(9102,p2),(9103,p3),(i,p4)] :=
  clocks_cons (.head _) h1.symm (clocks_cons (.tail _ (.head _)) h2.symm (clocks_cons (.tail _ (.tail _ (.head _))) h3.symm (clocks_cons (.tail _ (.tail _ (.tail _ (.head _)))) h4.symm clocks_nil)))
theorem osub_lcat {g M:Nat} {γ γ':Nat→Bag} {L:List HV} (h1:∀ i,i < M→γ i=γ' i) (h2:Sb (bsf L 0 0) (iListV (γ' M).list)):OSub ⟨g,M+1,1,25,0,cat M (lrF γ) (bsf L)⟩ (lrO g (M+1) γ'):=OSub.of fun i j hi hj=>by
  obtain rfl:j=0:=by omega
  unfold cat
  by_cases h:i < M
  · have e : Nat.blt i M = true := by simpa [Nat.blt_eq] using h
    rw [e];show Sb (iListV (γ i).list) (iListV (γ' i).list);rw [h1 i h];exact .refl _
  · obtain rfl : i = M := by omega
    have e:Nat.blt i i=false:=by rw [Bool.eq_false_iff];intro h';simp [Nat.blt_eq] at h'
    rw [e];show Sb (bsf L (i - i) 0) _;rw [Nat.sub_self];exact h2
theorem kz_sg {kp sh:List (Nat×HObj)} {id g fl M:Nat} {ty:TypeId} {f:Nat→Nat→HV} (ho:(id,(⟨g,1,1,ty,fl,f⟩:HObj))∈sh) (hf:f 0 0=intV (M:Int)) (h:M < 256):Kz kp sh (.os id g 0 1) (iListV (single M).list):=by
  rw [single_list M h]
  exact .fz _ _ (fz_row (l:=[(M:Int)]) (enc:=fun x _=>intV x) (d:=0) ho rfl rfl (Nat.le_refl _) (fun i j hi hj=>by
    obtain rfl:i=0:=by simpa using hi
    obtain rfl:j=0:=by have:j < 1:=hj;omega
    show Fz sh (f 0 0) (intV (M:Int));rw [hf];exact .imm _))
theorem kind2 {t:T} (hok:t.ok=true) (h1:t.kind≠1) (h3:t.kind≠3) (h2:t.kind≠2):t.kind=4:=by
  rcases kind_ok hok with h | h | h | h
  · exact absurd h h1
  · exact absurd h h2
  · exact absurd h h3
  · exact h
theorem part_row (l:List Mn) (hB:MnB l) (e:List Pt) (he:e.length≤100000) (b:Nat) (t:T) (hk4:t.kind≠4) (hok:t.ok=true) (hat:AtP e b (T.flat b t)) (hkl:t.kidsT.length≤100000)
    (ih:∀ i,i < t.kidsT.length→LayD l e (b+T.sizeL (t.kidsT.take i)) (t.kidsT.getD i default)):LayD l e b t:=by
  intro c g1 g2 g3 M0 on β p0 hon hw hβ hz
  have htop:=at_top hat
  have hps:=t.size_pos
  have hkid:=top_kids b t
  have hrl:=rootsL_len t.kidsT b
  generalize htp:t.top b=p at htop hkid
  have hpk:p.kind=t.kind:=by rw [←htp];exact top_kind b t
  obtain ⟨m,hm⟩:∃ m,m=meansV l:=⟨_,rfl⟩
  have hmo:∀ s,(m s).ok:=by rw [hm];exact means_ok l
  rw [←hm]
  let k0:=c
  refine hfun_of Tryz.func56 rfl (by kernel_rfl) _ _ _ _ rfl 233 rfl rfl (fun X ok hX=>?_)
  refine srg fun N h1=>?_
  refine hm_1 8 (hop_alloc (id:=9208) (sz:=5) zc_55 rfl rfl (nb rfl) (nb rfl)) rfl rfl pre0 rfl rfl (c':=c+1) rfl ?_
  refine snl h1 ?_
  refine srg fun N h2=>?_
  refine sm ?_
  refine sm ?_
  refine s0 (hop_ia_sl el_22 rfl rfl (by omega) (by omega) (nb rfl)) ?_
  refine s0 (HOp.val (v':=ptH p) (hop_load_fp ty_27 rfl (nb rfl) (fun h=>(by cases h))) (pt_at (by omega) htop.1)) ?_
  refine hm_1 9 (hop_alloc (id:=9209) (sz:=5) zc_27 rfl rfl (nb rfl) (nb rfl)) rfl rfl pre0 rfl rfl (c':=c+2) rfl ?_
  refine sw (c+3) ty_27 ?_
  refine snl h2 ?_
  refine srg fun N h3=>?_
  refine s0 (hop_build (hs:=[]) st_55 rfl rfl trivial) ?_
  refine hm_1 10 (hop_alloc (id:=9210) (sz:=5) zc_55 rfl rfl (nb rfl) (nb rfl)) rfl rfl pre0 rfl rfl (c':=c+4) rfl ?_
  refine sw (c+5) ty_55 ?_
  refine snl h3 ?_
  refine hw_seq (fun Nh4 h4=>?_)
  refine srg fun N h5=>?_
  refine sf fd_27_0 ?_
  refine sl ty_3 ?_
  refine s0 (hop_eql rfl rfl) ?_
  refine snl h5 ?_
  refine wc (fun hc0=>?_) (fun hc0=>?_)
  · have hr0 := hc0; (try simp only [hcs, Int.reduceToNat] at hc0)
    obtain ⟨s,hts⟩:=w_nm (by rw [←hpk];exact hc0) hok;have hpn:p.name=s:=(by rw [←htp,hts];rfl);have hl1:lay m t M0=⟨[m s],[],⟨single M0,single M0,false⟩⟩:=(by rw [hts];simp [lay]);have hw1:t.w=1:=(by rw [hts];rfl)
    refine srg fun N h6=>?_
    refine sm ?_
    refine sn ?_
    refine sf fd_55_0 ?_
    refine sl ty_53 ?_
    refine s0 (hop_len_os (T:=53) rfl (elOf_spec el_53).1 rfl) ?_
    refine sa ?_
    refine snl h6 ?_
    refine hw_seq (fun Nh7 h7=>?_)
    refine hd_start ?_
    refine dm 1 ?_
    refine dm 2 ?_
    refine dk 3 ?_
    refine df 4 fd_55_0 ?_
    refine dl 5 ty_53 ?_
    refine dm 6 ?_
    refine df 7 fd_27_3 ?_
    refine dl 8 ty_9 ?_
    refine d0 9 (hop_call0 (xs:=[_,_]) (means_h l hB p.name) ⟨rfl,⟨rfl,trivial⟩⟩ ⟨(Fz.eq rfl),⟨(Fz.eq rfl),trivial⟩⟩) ?_
    refine hd_1 47 (hop_buildSlice (id:=9247) (hs:=[_]) ei_53 (nb rfl) rfl (nb rfl) ⟨rfl,rfl,rfl,rfl,trivial⟩) rfl rfl pre0 rfl rfl (k':=10) rfl ?_
    refine hd_1 48 (hol_append ei_53 (nb rfl) rfl (by omega) (nb rfl) (srl_os0 rfl (nb rfl)) (by omega) rfl) rfl rfl (preC rfl (pre1 rfl)) rfl rfl (k':=11) rfl ?_
    refine dk 12 ?_
    refine df 13 fd_55_0 ?_
    refine hd_s1 (hol_store ty_53 rfl rfl rfl rfl (nb rfl) (nb rfl) (nb rfl)) rfl rfl (pre1 rfl) (k':=14) rfl ?_
    refine hd_nil (by kernel_rfl) (by kernel_rfl) (c':=c+19) rfl ?_
    refine h7 _ ?_
    refine srg fun N h8=>?_
    refine sm ?_
    refine sm ?_
    refine sn ?_
    refine sf fd_55_1 ?_
    refine sl ty_53 ?_
    refine hm_1 56 (hop_buildSlice (id:=9256) (hs:=[_]) ei_53 (nb rfl) rfl (nb rfl) ⟨rfl,rfl,rfl,rfl,trivial⟩) rfl rfl pre0 rfl rfl (c':=c+20) rfl ?_
    refine hm_1 57 (hol_append ei_53 (nb rfl) rfl (by omega) (nb rfl) (srl_os0 rfl (nb rfl)) (by omega) rfl) rfl rfl (preC rfl (pre1 rfl)) rfl rfl (c':=c+21) rfl ?_
    refine sn ?_
    refine sf fd_55_1 ?_
    refine sx (c+22) ty_53 ?_
    refine snl h8 ?_
    refine hw_seq (fun Nh9 h9=>?_)
    have hsn:=onF_snoc hon (m p.name);refine (hsub_ob 9101 (ndO g1 (.os 9102 (c+5+10) 0 (M0+1)) (.os 9103 (c+20) 0 (M0+1)) p0) rfl (by exact osub_nd (.refl _) (.refl _) (.refl _) (.refl _) (.refl _))).wp ?_;refine (hsub_ob 9102 (lrO (c+5+10) (M0+1) (onF (on++[m p.name]))) rfl (by exact osub_lcat hsn.1 (by rw [hsn.2,hm];exact .refl _))).wp ?_;refine (hsub_ob 9103 (lrO (c+20) (M0+1) β) rfl (by exact osub_lcat (fun _ _=>rfl) (by rw [hz M0 (Nat.le_refl _) (by omega)];exact sb_zl))).wp ?_
    refine hw_region ?_
    refine sm ?_
    refine hm_1 61 (hop_buildSlice (id:=9261) (hs:=[_]) ei_25 (nb rfl) rfl (nb rfl) ⟨rfl,rfl,rfl,rfl,trivial⟩) rfl rfl pre0 rfl rfl (c':=c+23) rfl ?_
    refine sf fd_55_2 ?_
    refine sx (c+24) ty_25 ?_
    refine snl h9 ?_
    refine srg fun N h10=>?_
    refine sm ?_
    refine hm_1 64 (hop_buildSlice (id:=9264) (hs:=[_]) ei_25 (nb rfl) rfl (nb rfl) ⟨rfl,rfl,rfl,rfl,trivial⟩) rfl rfl pre0 rfl rfl (c':=c+25) rfl ?_
    refine sf fd_55_3 ?_
    refine sx (c+26) ty_25 ?_
    refine snl h10 ?_
    refine srg fun N h11=>?_
    refine sl ty_55 ?_
    refine sw (c+27) ty_55 ?_
    refine snl h11 ?_
    refine hw_ret ?_
    refine hq_then_ret ?_
    refine hf_retR1 ok hX RetS.one rfl (rvl_cell rfl rfl ty_55 (fun h=>by first | rfl | cases h) rfl rfl) [(9261,_),(9264,_)] rfl (preC rfl (preC rfl pre0)) ((c+5+10,c+20)) (trivial) (by rfl) (by rfl) ((by rw [hl1];exact .agg 5 _ _ (by exact jn5 (.fz _ _ (.imm _)) (.fz _ _ (.imm _)) (kz_sg (.head _) rfl (by omega)) (kz_sg (.tail _ (.head _)) rfl (by omega)) (.fz _ _ (.imm _))))) ?_
    exact ⟨⟨_,rfl,(by rw [hw1];exact okz_netD rfl rfl rfl rfl)⟩,⟨⟨_,rfl,(by rw [hw1,hl1,←hpn];exact okz_lrow (fun _ _=>rfl))⟩,⟨⟨_,rfl,(by rw [hw1,hl1];exact okz_lrow (fun _ _=>rfl))⟩,trivial⟩⟩⟩
  have hr0:=hc0;(try simp only [hcs,Int.reduceToNat] at hc0)
  refine hw_skip ?_
  refine h4 _ ?_
  refine hw_seq (fun Nh12 h12=>?_)
  refine srg fun N h13=>?_
  refine sf fd_27_0 ?_
  refine sl ty_3 ?_
  refine s0 (hop_eql rfl rfl) ?_
  refine snl h13 ?_
  refine wc (fun hc1=>?_) (fun hc1=>?_)
  · have hr1 := hc1; (try simp only [hcs, Int.reduceToNat] at hc1)
    have hkd3:t.kind=3:=(by rw [←hpk];exact hc1);have hwm:=w_many (t:=t) (by rw [hkd3];decide) (by rw [hkd3];decide);have hll:lay m t M0=layC m t.kidsT M0 ⟨[],[],default⟩:=(by obtain ⟨ts,hts⟩:=w_choice hkd3 hok;rw [hts];simp [lay,T.kidsT])
    refine hw_seq (fun Nh14 h14=>?_)
    refine srg fun N h15=>?_
    refine sa ?_
    refine snl h15 ?_
    refine hw_block ?_
    refine hw_loopc (α:=Nat×Nat×List Bag×(Nat→Bag)×Pc×Nat×Nat) (fun x c=>⟨233,[(0,.v (.pt 9101 g1 0 0)),(1,.v (ptsV e)),(3,.v (mnsV l)),(8,.v (.pt 9208 k0 0 0)),(9,.v (.pt 9209 (k0+1) 0 0)),(10,.v (.pt 9210 (k0+3) 0 0)),(12,.v (intV (x.1:Int)))],[(9101,ndO g1 (.os 9102 x.2.2.2.2.2.1 0 x.2.1) (.os 9103 x.2.2.2.2.2.2 0 x.2.1) p0),(9102,lrO x.2.2.2.2.2.1 x.2.1 (onF x.2.2.1)),(9103,lrO x.2.2.2.2.2.2 x.2.1 x.2.2.2.1),(9208,ndO k0 nilS nilS default),(9209,⟨k0+1,1,5,27,0,fun _=>ptF p⟩),(9210,ndO (k0+3) nilS nilS x.2.2.2.2.1)],c⟩) (fun x=>x.1≤t.kidsT.length∧x.2.1=M0+T.wL (t.kidsT.take x.1)∧x.2.2.1=on++(layC m (t.kidsT.take x.1) M0 ⟨[],[],default⟩).on∧x.2.2.2.1=links β (layC m (t.kidsT.take x.1) M0 ⟨[],[],default⟩).lk∧x.2.2.2.2.1=(layC m (t.kidsT.take x.1) M0 ⟨[],[],default⟩).pc) (fun x=>t.kidsT.length - x.1) ((0,M0,on,β,default,g2,g3)) (by exact ⟨Nat.zero_le _,by simp [T.wL],by simp [layC],by simp [layC,links],by simp [layC]⟩) (hsub_of rfl (Nat.le_refl _) (tsr rfl (tsr rfl (tsr rfl (tsr rfl (tsr rfl (tsr rfl (tsr rfl TmSub.nil))))))) (hsr rfl (hsr rfl (hsr rfl (HpSub.cons rfl (osub_nd0 rfl rfl rfl rfl rfl rfl rfl) (hsr rfl (HpSub.cons rfl (osub_nd0 rfl rfl rfl rfl rfl rfl rfl) HpSub.nil))))))) (fun x c hx NhL16 hL16=>?_)
    revert hx hL16;obtain ⟨ii,MM,on1,be1,ou1,y2,y3⟩:=x;intro hx hL16;dsimp only at hx hL16 ⊢
    obtain ⟨hi,hMM,hon1,hbe1,hou1⟩:=hx
    have hA:=layC_pre hmo t.kidsT ii M0 (by omega)
    refine hw_seq (fun Nh17 h17=>?_)
    refine srg fun N h18=>?_
    refine sm ?_
    refine sf fd_27_4 ?_
    refine sl ty_25 ?_
    refine s0 (hop_len_sl (T:=25) rfl (elOf_spec el_25).1 rfl) ?_
    refine s0 (hop_lss rfl rfl) ?_
    refine snl h18 ?_
    refine wc (fun hc2=>?_) (fun hc2=>?_)
    · have hr2 := hc2; (try simp only [hcs, Int.reduceToNat] at hc2)
      have him:ii < t.kidsT.length:=(by have h:=hr2;simp [hkid,hrl] at h;omega);have hka:=kids_at' hat him;have hkt:=at_top hka;have hks:=(t.kidsT.getD ii default).size_pos;have hroot:=roots_get t.kidsT b ii him;have hwt:=wL_take t.kidsT ii him;have hwl:=wL_le t.kidsT (ii+1);have hxw:MM+(t.kidsT.getD ii default).w≤256:=(by omega);have hlen1:on1.length=MM:=(by rw [hon1,List.length_append,hA.len,hon,hMM]);have hbok:∀ q,(be1 q).ok:=(by rw [hbe1];exact links_ok hA.lk hβ);have hbz:∀ q,MM≤q→q < 256→be1 q=Bag.zero:=(by rw [hbe1,hMM];exact links_zero hA.lk (fun q hq hq2=>hz q (by omega) hq2));have hsn:=layC_snoc m (t.kidsT.take ii) M0 ⟨[],[],default⟩ (t.kidsT.getD ii default);rw [←take_snoc him] at hsn;have hih:=ih ii him;unfold LayD at hih;rw [←hm] at hih
      refine hw_skip ?_
      refine h17 _ ?_
      refine hw_seq (fun Nh19 h19=>?_)
      refine hw_block ?_
      refine srg fun N h20=>?_
      refine sm ?_
      refine sm ?_
      refine sf fd_27_4 ?_
      refine sl ty_25 ?_
      refine sm ?_
      refine s0 (hop_ia_sl el_25 rfl rfl (by omega) (by omega) (nb rfl)) ?_
      refine s0 (HOp.val (v':=intV ((b+T.sizeL (t.kidsT.take ii)+(t.kidsT.getD ii default).size - 1:Nat):Int)) (hop_load_fp ty_3 rfl (nb rfl) (fun h=>(by rfl))) (by exact kids_at (i:=ii) (by omega) (by rw [hkid,hroot];unfold T.root;omega))) ?_
      refine sm ?_
      refine hf_callR 85 (xs:=[_,_,_,_]) (pre:=[(9101,_),(9102,_),(9103,_)]) (hih _ g1 y2 y3 MM on1 be1 p0 hlen1 hxw hbok hbz) ⟨rfl,⟨rfl,⟨rfl,⟨rfl,trivial⟩⟩⟩⟩ (preC rfl (preC rfl (preC rfl pre0))) rfl rfl (fun x1 c1 hzz=>?_)
      obtain ⟨z2,z3⟩:=x1
      (try dsimp only)
      refine hm_1 13 (hop_alloc (id:=9213) (sz:=5) zc_55 rfl rfl (nb rfl) (nb rfl)) rfl rfl pre0 rfl rfl (c':=c1+1) rfl ?_
      refine sw (c1+2) ty_55 ?_
      refine snl h20 ?_
      refine srg fun N h21=>?_
      refine sf fd_55_2 ?_
      refine sl ty_25 ?_
      refine sf fd_55_2 ?_
      refine sl ty_25 ?_
      refine s0 (hop_call0 (xs:=[_,_]) (refOr_h ou1.first (lay m (t.kidsT.getD ii default) MM).pc.first) ⟨rfl,⟨rfl,trivial⟩⟩ ⟨(Fz.eq rfl),⟨(Fz.eq rfl),trivial⟩⟩) ?_
      refine sf fd_55_2 ?_
      refine sx (c1+3) ty_25 ?_
      refine snl h21 ?_
      refine srg fun N h22=>?_
      refine sf fd_55_3 ?_
      refine sl ty_25 ?_
      refine sf fd_55_3 ?_
      refine sl ty_25 ?_
      refine s0 (hop_call0 (xs:=[_,_]) (refOr_h ou1.ends (lay m (t.kidsT.getD ii default) MM).pc.ends) ⟨rfl,⟨rfl,trivial⟩⟩ ⟨(Fz.eq rfl),⟨(Fz.eq rfl),trivial⟩⟩) ?_
      refine sf fd_55_3 ?_
      refine sx (c1+4) ty_25 ?_
      refine snl h22 ?_
      refine hw_region ?_
      refine sf fd_55_4 ?_
      refine sl ty_4 ?_
      refine sm ?_
      refine stg 100 (fun hb=>hop_fa fd_55_4 rfl) rfl rfl rfl rfl rfl ?_
      refine hq_g 102 2 100 false _ (fun hb=>hol_load ty_4 rfl (nb rfl) (nb rfl) (fun h=>(by rfl))) rfl rfl rfl rfl (pre1 rfl) rfl rfl rfl ?_
      refine hq_p 103 (hstep_or _ _ rfl rfl rfl) rfl rfl rfl ?_
      refine sf fd_55_4 ?_
      refine sx (c1+5) ty_4 ?_
      refine nu ?_
      refine hq_block ?_
      refine h19 _ ?_
      refine hw_region ?_
      refine sm ?_
      refine s0 (hop_addi rfl rfl rfl (by omega) (by omega)) ?_
      refine sa ?_
      refine hseq_nil ?_
      exact hL16 ((ii+1,MM+(t.kidsT.getD ii default).w,on1++(lay m (t.kidsT.getD ii default) MM).on,links be1 (lay m (t.kidsT.getD ii default) MM).lk,⟨bun ou1.first (lay m (t.kidsT.getD ii default) MM).pc.first,bun ou1.ends (lay m (t.kidsT.getD ii default) MM).pc.ends,ou1.empty||(lay m (t.kidsT.getD ii default) MM).pc.empty⟩,z2,z3)) _ _ (by (try dsimp only);exact ⟨by omega,by rw [hMM,hwt,Nat.add_assoc],by rw [hsn,←hMM,hon1];simp only [stC,List.append_assoc],by rw [hsn,←hMM,hbe1];simp only [stC];rw [links_app],by rw [hsn,←hMM,hou1];rfl⟩) (by (try dsimp only);omega) (hsub_of rfl (Nat.le_refl _) (tsr rfl (tsr rfl (tsr rfl (tsr rfl (tsr rfl (tsr rfl (tsr rfl TmSub.nil))))))) (hsr rfl (hsr rfl (hsr rfl (hsr rfl (hsr rfl (HpSub.cons rfl (osub_ndv (by exact jn5 rfl rfl rfl rfl rfl)) HpSub.nil)))))))
    have hr2:=hc2;(try simp only [hcs,Int.reduceToNat] at hc2)
    have hit:ii=t.kidsT.length:=(by have h:=hr2;simp [hkid,hrl] at h;omega);rw [hit,List.take_length] at hA hMM hon1 hbe1 hou1
    refine hw_exit ?_
    refine hq_then_exit ?_
    refine hq_then_exit ?_
    refine hq_block_here ?_
    refine h14 _ ?_
    refine srg fun N h23=>?_
    refine sl ty_55 ?_
    refine sw (c+1) ty_55 ?_
    refine snl h23 ?_
    refine hw_ret ?_
    refine hq_then_ret ?_
    refine hf_retR1 ok hX RetS.one rfl (rvl_cell rfl rfl ty_55 (fun h=>by first | rfl | cases h) rfl rfl) [] rfl pre0 ((y2,y3)) (trivial) (by rfl) (by rfl) ((by rw [hll,←hou1];exact kz_nd (by exact jn5 rfl rfl rfl rfl rfl))) ?_
    exact ⟨⟨_,rfl,(by rw [hwm,←hMM];exact okz_netD rfl rfl rfl rfl)⟩,⟨⟨_,rfl,(by rw [hwm,←hMM,hll,←hon1];exact okz_lrow (fun _ _=>rfl))⟩,⟨⟨_,rfl,(by rw [hwm,←hMM,hll,←hbe1];exact okz_lrow (fun _ _=>rfl))⟩,trivial⟩⟩⟩
  have hr1:=hc1;(try simp only [hcs,Int.reduceToNat] at hc1)
  refine hw_skip ?_
  refine h12 _ ?_
  refine srg fun N h24=>?_
  refine sf fd_55_4 ?_
  refine sx (c+6) ty_4 ?_
  refine snl h24 ?_
  refine hw_seq (fun Nh25 h25=>?_)
  refine srg fun N h26=>?_
  refine sf fd_27_0 ?_
  refine sl ty_3 ?_
  refine s0 (hop_eql rfl rfl) ?_
  refine snl h26 ?_
  refine wc (fun hc3=>?_) (fun hc3=>?_)
  · have hr3 := hc3; (try simp only [hcs, Int.reduceToNat] at hc3)
    have hkd2:t.kind=2:=(by rw [←hpk];exact hc3);have hwm:=w_many (t:=t) (by rw [←hpk];exact hc0) (by rw [hkd2];decide);have hll:lay m t M0=layR m t.kidsT M0 ⟨[],[],Pc.nil⟩:=(by obtain ⟨k,ts,hts,hk3⟩:=w_row (by rw [←hpk];exact hc0) (by rw [hkd2];decide) (by rw [←hpk];exact hc1) hok;rw [hts];simp [lay,hk3,T.kidsT])
    refine hw_seq (fun Nh27 h27=>?_)
    refine srg fun N h28=>?_
    refine sa ?_
    refine snl h28 ?_
    refine hw_block ?_
    refine hw_loopc (α:=Nat×Nat×List Bag×(Nat→Bag)×Pc×Nat×Nat) (fun x c=>⟨233,[(0,.v (.pt 9101 g1 0 0)),(1,.v (ptsV e)),(3,.v (mnsV l)),(8,.v (.pt 9208 k0 0 0)),(9,.v (.pt 9209 (k0+1) 0 0)),(10,.v (.pt 9210 (k0+3) 0 0)),(14,.v (intV (x.1:Int)))],[(9101,ndO g1 (.os 9102 x.2.2.2.2.2.1 0 x.2.1) (.os 9103 x.2.2.2.2.2.2 0 x.2.1) p0),(9102,lrO x.2.2.2.2.2.1 x.2.1 (onF x.2.2.1)),(9103,lrO x.2.2.2.2.2.2 x.2.1 x.2.2.2.1),(9208,ndO k0 nilS nilS default),(9209,⟨k0+1,1,5,27,0,fun _=>ptF p⟩),(9210,ndO (k0+3) nilS nilS x.2.2.2.2.1)],c⟩) (fun x=>x.1≤t.kidsT.length∧x.2.1=M0+T.wL (t.kidsT.take x.1)∧x.2.2.1=on++(layR m (t.kidsT.take x.1) M0 ⟨[],[],Pc.nil⟩).on∧x.2.2.2.1=links β (layR m (t.kidsT.take x.1) M0 ⟨[],[],Pc.nil⟩).lk∧x.2.2.2.2.1=(layR m (t.kidsT.take x.1) M0 ⟨[],[],Pc.nil⟩).pc) (fun x=>t.kidsT.length - x.1) ((0,M0,on,β,Pc.nil,g2,g3)) (by exact ⟨Nat.zero_le _,by simp [T.wL],by simp [layR],by simp [layR,links],by simp [layR]⟩) (hsub_of rfl (Nat.le_refl _) (tsr rfl (tsr rfl (tsr rfl (tsr rfl (tsr rfl (tsr rfl (tsr rfl TmSub.nil))))))) (hsr rfl (hsr rfl (hsr rfl (HpSub.cons rfl (osub_nd0 rfl rfl rfl rfl rfl rfl rfl) (hsr rfl (HpSub.cons rfl (osub_nd0 rfl rfl rfl rfl rfl rfl rfl) HpSub.nil))))))) (fun x c hx NhL29 hL29=>?_)
    revert hx hL29;obtain ⟨ii,MM,on1,be1,ou1,y2,y3⟩:=x;intro hx hL29;dsimp only at hx hL29 ⊢
    obtain ⟨hi,hMM,hon1,hbe1,hou1⟩:=hx
    have hA:=layR_pre hmo t.kidsT ii M0 (by omega)
    refine hw_seq (fun Nh30 h30=>?_)
    refine srg fun N h31=>?_
    refine sm ?_
    refine sf fd_27_4 ?_
    refine sl ty_25 ?_
    refine s0 (hop_len_sl (T:=25) rfl (elOf_spec el_25).1 rfl) ?_
    refine s0 (hop_lss rfl rfl) ?_
    refine snl h31 ?_
    refine wc (fun hc4=>?_) (fun hc4=>?_)
    · have hr4 := hc4; (try simp only [hcs, Int.reduceToNat] at hc4)
      have him:ii < t.kidsT.length:=(by have h:=hr4;simp [hkid,hrl] at h;omega);have hka:=kids_at' hat him;have hkt:=at_top hka;have hks:=(t.kidsT.getD ii default).size_pos;have hroot:=roots_get t.kidsT b ii him;have hwt:=wL_take t.kidsT ii him;have hwl:=wL_le t.kidsT (ii+1);have hxw:MM+(t.kidsT.getD ii default).w≤256:=(by omega);have hly:=lay_ok hmo (t.kidsT.getD ii default) MM hxw;have hlen1:on1.length=MM:=(by rw [hon1,List.length_append,hA.len,hon,hMM]);have hbok:∀ q,(be1 q).ok:=(by rw [hbe1];exact links_ok hA.lk hβ);have hbz:∀ q,MM≤q→q < 256→be1 q=Bag.zero:=(by rw [hbe1,hMM];exact links_zero hA.lk (fun q hq hq2=>hz q (by omega) hq2));have hou2:ou1.ok:=(by rw [hou1];exact hA.pc);have hino:InB M0 (MM+(t.kidsT.getD ii default).w) ou1.ends:=(by rw [hou1,hMM];exact hA.inB.2.mono (Nat.le_refl _) (by omega));have hsn:=layR_snoc m (t.kidsT.take ii) M0 ⟨[],[],Pc.nil⟩ (t.kidsT.getD ii default);rw [←take_snoc him] at hsn;have hih:=ih ii him;unfold LayD at hih;rw [←hm] at hih
      refine hw_skip ?_
      refine h30 _ ?_
      refine hw_seq (fun Nh32 h32=>?_)
      refine hw_block ?_
      refine srg fun N h33=>?_
      refine sm ?_
      refine sm ?_
      refine sf fd_27_4 ?_
      refine sl ty_25 ?_
      refine sm ?_
      refine s0 (hop_ia_sl el_25 rfl rfl (by omega) (by omega) (nb rfl)) ?_
      refine s0 (HOp.val (v':=intV ((b+T.sizeL (t.kidsT.take ii)+(t.kidsT.getD ii default).size - 1:Nat):Int)) (hop_load_fp ty_3 rfl (nb rfl) (fun h=>(by rfl))) (by exact kids_at (i:=ii) (by omega) (by rw [hkid,hroot];unfold T.root;omega))) ?_
      refine sm ?_
      refine hf_callR 125 (xs:=[_,_,_,_]) (pre:=[(9101,_),(9102,_),(9103,_)]) (hih _ g1 y2 y3 MM on1 be1 p0 hlen1 hxw hbok hbz) ⟨rfl,⟨rfl,⟨rfl,⟨rfl,trivial⟩⟩⟩⟩ (preC rfl (preC rfl (preC rfl pre0))) rfl rfl (fun x2 c2 hzz=>?_)
      obtain ⟨z2,z3⟩:=x2
      (try dsimp only)
      refine hm_1 15 (hop_alloc (id:=9215) (sz:=5) zc_55 rfl rfl (nb rfl) (nb rfl)) rfl rfl pre0 rfl rfl (c':=c2+1) rfl ?_
      refine sw (c2+2) ty_55 ?_
      refine snl h33 ?_
      refine hw_region ?_
      refine sm ?_
      refine st1 (HOp.val (v':=ndV (lay m (t.kidsT.getD ii default) MM).pc) (hol_load ty_55 rfl (nb rfl) (nb rfl) (fun h=>(by cases h))) (rfl)) rfl rfl rfl ?_
      refine hm_ 128 (hop_funD (xs:=[_,_,_]) (pre:=[(9101,_),(9102,_),(9103,_),(9210,_)]) (seq_h9210 ou1 (lay m (t.kidsT.getD ii default) MM).pc hou2 hly.pc (MM+(t.kidsT.getD ii default).w) g1 z2 z3 (k0+3) (onF (on1++(lay m (t.kidsT.getD ii default) MM).on)) _ p0 (inB_lt hino) hxw) ((clkS rfl rfl rfl rfl)) ⟨rfl,⟨rfl,⟨rfl,trivial⟩⟩⟩) rfl rfl (preC rfl (preC rfl (preC rfl (preC rfl pre0)))) rfl rfl (c':=c2+3) rfl ?_
      refine hseq_nil ?_
      refine hq_block ?_
      refine h32 _ ?_
      refine hw_region ?_
      refine sm ?_
      refine s0 (hop_addi rfl rfl rfl (by omega) (by omega)) ?_
      refine sa ?_
      refine hseq_nil ?_
      exact hL29 ((ii+1,MM+(t.kidsT.getD ii default).w,on1++(lay m (t.kidsT.getD ii default) MM).on,linkF (links be1 (lay m (t.kidsT.getD ii default) MM).lk) (ou1.ends,(lay m (t.kidsT.getD ii default) MM).pc.first),ou1.join (lay m (t.kidsT.getD ii default) MM).pc,z2,z3)) _ _ (by (try dsimp only);exact ⟨by omega,by rw [hMM,hwt,Nat.add_assoc],by rw [hsn,←hMM,hon1];simp only [stR,List.append_assoc],by rw [hsn,←hMM,hbe1,hou1];simp only [stR];rw [links_app,links_app];rfl,by rw [hsn,←hMM,hou1];rfl⟩) (by (try dsimp only);omega) (hsub_of rfl (Nat.le_refl _) (tsr rfl (tsr rfl (tsr rfl (tsr rfl (tsr rfl (tsr rfl (tsr rfl TmSub.nil))))))) (hsr rfl (hsr rfl (hsr rfl (hsr rfl (hsr rfl (hsr rfl HpSub.nil)))))))
    have hr4:=hc4;(try simp only [hcs,Int.reduceToNat] at hc4)
    have hit:ii=t.kidsT.length:=(by have h:=hr4;simp [hkid,hrl] at h;omega);rw [hit,List.take_length] at hA hMM hon1 hbe1 hou1
    refine hw_exit ?_
    refine hq_then_exit ?_
    refine hq_then_exit ?_
    refine hq_block_here ?_
    refine h27 _ ?_
    refine srg fun N h34=>?_
    refine sl ty_55 ?_
    refine sw (c+1) ty_55 ?_
    refine snl h34 ?_
    refine hw_ret ?_
    refine hq_then_ret ?_
    refine hf_retR1 ok hX RetS.one rfl (rvl_cell rfl rfl ty_55 (fun h=>by first | rfl | cases h) rfl rfl) [] rfl pre0 ((y2,y3)) (trivial) (by rfl) (by rfl) ((by rw [hll,←hou1];exact kz_nd (by exact jn5 rfl rfl rfl rfl rfl))) ?_
    exact ⟨⟨_,rfl,(by rw [hwm,←hMM];exact okz_netD rfl rfl rfl rfl)⟩,⟨⟨_,rfl,(by rw [hwm,←hMM,hll,←hon1];exact okz_lrow (fun _ _=>rfl))⟩,⟨⟨_,rfl,(by rw [hwm,←hMM,hll,←hbe1];exact okz_lrow (fun _ _=>rfl))⟩,trivial⟩⟩⟩
  have hr3:=hc3;(try simp only [hcs,Int.reduceToNat] at hc3)
  exfalso;exact hk4 (kind2 hok (by rw [←hpk];exact hc0) (by rw [←hpk];exact hc1) (by rw [←hpk];exact hc3))
theorem nds_at {l:List Pc} {i:Nat} {x:Pc} {f:Nat→HV} (h:l.getD i default=x) (hf:∀ j,f j=ndsF l i j):HV.agg 5 f=ndV x:=by
  subst h
  show HV.agg 5 f=HV.agg 5 _
  congr 1;funext j;exact hf j
theorem part_times (l:List Mn) (hB:MnB l) (e:List Pt) (he:e.length≤100000) (b:Nat) (t:T) (hk4:t.kind=4) (hok:t.ok=true) (hat:AtP e b (T.flat b t)) (hkl:t.kidsT.length≤100000)
    (ih:∀ i,i < t.kidsT.length→LayD l e (b+T.sizeL (t.kidsT.take i)) (t.kidsT.getD i default)):LayD l e b t:=by
  intro c g1 g2 g3 M0 on β p0 hon hw hβ hz
  have htop:=at_top hat
  have hps:=t.size_pos
  have hkid:=top_kids b t
  have hrl:=rootsL_len t.kidsT b
  generalize htp:t.top b=p at htop hkid
  have hpk:p.kind=4:=by rw [←htp,top_kind b t];exact hk4
  obtain ⟨m,hm⟩:∃ m,m=meansV l:=⟨_,rfl⟩
  have hmo:∀ s,(m s).ok:=by rw [hm];exact means_ok l
  rw [←hm]
  obtain ⟨lo,hi,u,htu⟩:=w_times hk4 hok
  have hct:=w_count b hk4 hok
  rw [htp] at hct
  have hmi:=many_int p.low p.high hct.2.1
  have hpl:p.low=lo∧p.high=hi:=by rw [←htp,htu];exact ⟨rfl,rfl⟩
  have hk1:t.kidsT=[u]:=by rw [htu];rfl
  have hkl0:p.kids.length=1:=by rw [hkid,hrl,hk1];rfl
  have h0k:0 < t.kidsT.length:=by rw [hk1];exact Nat.zero_lt_one
  have hiu:LayD l e b u:=by have h:=ih 0 h0k;rw [hk1] at h;simpa [T.sizeL] using h
  have hka:=kids_at' hat h0k
  have hroot:=roots_get t.kidsT b 0 h0k
  have hu0:t.kidsT.getD 0 default=u:=by rw [hk1];rfl
  have hs0:T.sizeL (t.kidsT.take 0)=0:=by simp [T.sizeL]
  rw [hu0,hs0,Nat.add_zero] at hroot
  have hus:=u.size_pos
  unfold LayD at hiu
  rw [←hm] at hiu
  have hll:lay m t M0=layT p.low p.high (fun k=>lay m u (M0+k * u.w)):=by rw [htu,hpl.1,hpl.2];simp [lay]
  have htw:t.w=manyOf p.low p.high * u.w:=by rw [hct.1,hk1,Nat.mul_comm];simp [T.wL]
  have hdoc:=layT_doc hct.2.1 (hi:=p.high) (fun k=>lay m u (M0+k * u.w)) β
  obtain ⟨many,hmany⟩:∃ k,k=manyOf p.low p.high:=⟨_,rfl⟩
  obtain ⟨g,hg'⟩:∃ g,g=fun k=>lay m u (M0+k * u.w):=⟨_,rfl⟩
  have hgk:∀ k,lay m u (M0+k * u.w)=g k:=fun k=>by rw [hg']
  rw [←hmany] at hmi htw hdoc
  rw [←hg'] at hll hdoc
  have hm20:many≤20:=by rw [hmany];exact hct.2.2.2.2
  have hg:∀ k,k < many→(g k).Ok (M0+k * u.w) u.w:=fun k hk=>by rw [←hgk];exact lay_ok hmo u _ (by have:=kw_le (w:=u.w) hk;omega)
  rw [htw] at hw ⊢
  rw [hll]
  obtain ⟨R,hR⟩:∃ R,R=restP p.low.toNat g many:=⟨_,rfl⟩
  rw [←hR] at hdoc
  have hRl:R.length=many - p.low.toNat:=by rw [hR];exact restP_len _ _ _
  have hRo:∀ x∈R,x.ok∧x.inB M0 (M0+many * u.w):=by rw [hR];exact restP_ok hg many (Nat.le_refl _)
  let k0:=c
  refine hfun_of Tryz.func56 rfl (by kernel_rfl) _ _ _ _ rfl 233 rfl rfl (fun X ok hX=>?_)
  refine srg fun N h1=>?_
  refine hm_1 8 (hop_alloc (id:=9208) (sz:=5) zc_55 rfl rfl (nb rfl) (nb rfl)) rfl rfl pre0 rfl rfl (c':=c+1) rfl ?_
  refine snl h1 ?_
  refine srg fun N h2=>?_
  refine sm ?_
  refine sm ?_
  refine s0 (hop_ia_sl el_22 rfl rfl (by omega) (by omega) (nb rfl)) ?_
  refine s0 (HOp.val (v':=ptH p) (hop_load_fp ty_27 rfl (nb rfl) (fun h=>(by cases h))) (pt_at (by omega) htop.1)) ?_
  refine hm_1 9 (hop_alloc (id:=9209) (sz:=5) zc_27 rfl rfl (nb rfl) (nb rfl)) rfl rfl pre0 rfl rfl (c':=c+2) rfl ?_
  refine sw (c+3) ty_27 ?_
  refine snl h2 ?_
  refine srg fun N h3=>?_
  refine s0 (hop_build (hs:=[]) st_55 rfl rfl trivial) ?_
  refine hm_1 10 (hop_alloc (id:=9210) (sz:=5) zc_55 rfl rfl (nb rfl) (nb rfl)) rfl rfl pre0 rfl rfl (c':=c+4) rfl ?_
  refine sw (c+5) ty_55 ?_
  refine snl h3 ?_
  refine hw_seq (fun Nh4 h4=>?_)
  refine srg fun N h5=>?_
  refine sf fd_27_0 ?_
  refine sl ty_3 ?_
  refine s0 (hop_eql rfl rfl) ?_
  refine snl h5 ?_
  refine wc (fun hc0=>?_) (fun hc0=>?_)
  · have hr0 := hc0; (try simp only [hcs, Int.reduceToNat] at hc0)
    exfalso;omega
  have hr0:=hc0;(try simp only [hcs,Int.reduceToNat] at hc0)
  refine hw_skip ?_
  refine h4 _ ?_
  refine hw_seq (fun Nh6 h6=>?_)
  refine srg fun N h7=>?_
  refine sf fd_27_0 ?_
  refine sl ty_3 ?_
  refine s0 (hop_eql rfl rfl) ?_
  refine snl h7 ?_
  refine wc (fun hc1=>?_) (fun hc1=>?_)
  · have hr1 := hc1; (try simp only [hcs, Int.reduceToNat] at hc1)
    exfalso;omega
  have hr1:=hc1;(try simp only [hcs,Int.reduceToNat] at hc1)
  refine hw_skip ?_
  refine h6 _ ?_
  refine srg fun N h8=>?_
  refine sf fd_55_4 ?_
  refine sx (c+6) ty_4 ?_
  refine snl h8 ?_
  refine hw_seq (fun Nh9 h9=>?_)
  refine srg fun N h10=>?_
  refine sf fd_27_0 ?_
  refine sl ty_3 ?_
  refine s0 (hop_eql rfl rfl) ?_
  refine snl h10 ?_
  refine wc (fun hc3=>?_) (fun hc3=>?_)
  · have hr3 := hc3; (try simp only [hcs, Int.reduceToNat] at hc3)
    exfalso;omega
  have hr3:=hc3;(try simp only [hcs,Int.reduceToNat] at hc3)
  refine hw_skip ?_
  refine h9 _ ?_
  refine srg fun N h11=>?_
  refine sf fd_27_2 ?_
  refine sl ty_3 ?_
  refine sa ?_
  refine snl h11 ?_
  refine hw_joinc (α:=Nat) (fun x c=>⟨233,[(0,.v (.pt 9101 g1 0 0)),(1,.v (ptsV e)),(3,.v (mnsV l)),(8,.v (.pt 9208 k0 0 0)),(9,.v (.pt 9209 (k0+1) 0 0)),(10,.v (.pt 9210 (k0+3) 0 0)),(16,.v (intV (many:Int)))],[(9101,ndO g1 (.os 9102 g2 0 M0) (.os 9103 g3 0 M0) p0),(9102,lrO g2 M0 (onF on)),(9103,lrO g3 M0 β),(9208,ndO k0 nilS nilS default),(9209,⟨k0+1,1,5,27,0,fun _=>ptF p⟩),(9210,ndO (k0+3) nilS nilS Pc.nil)],c⟩) (fun x=>x≤0) (fun NhJ12 hJ12=>?_) (fun q c hx=>?_)
  · skip
    refine srg fun N h13=>?_
    refine sm ?_
    refine s0 (hop_lss rfl rfl) ?_
    refine snl h13 ?_
    refine wc (fun hc5=>?_) (fun hc5=>?_)
    · have hr5 := hc5; (try simp only [hcs, Int.reduceToNat] at hc5)
      refine hw_region ?_
      refine sf fd_27_1 ?_
      refine sl ty_3 ?_
      refine s0 (HOp.val (v':=intV (many:Int)) (hop_max rfl rfl) (by rw [←hmi,if_pos hc5])) ?_
      refine sa ?_
      refine hseq_nil ?_
      exact hJ12 (0) _ _ (by (try dsimp only);first | done | exact Nat.le_refl _) (hsub_of rfl (Nat.le_refl _) (tsr rfl (tsr rfl (tsr rfl (tsr rfl (tsr rfl (tsr rfl (tsr rfl TmSub.nil))))))) (hsr rfl (hsr rfl (hsr rfl (HpSub.cons rfl (osub_nd0 rfl rfl rfl rfl rfl rfl rfl) (hsr rfl (HpSub.cons rfl (osub_nd0 rfl rfl rfl rfl rfl rfl rfl) HpSub.nil)))))))
    have hr5:=hc5;(try simp only [hcs,Int.reduceToNat] at hc5)
    refine hw_skip ?_
    exact hJ12 (0) _ _ (by (try dsimp only);first | done | exact Nat.le_refl _) (hsub_of rfl (Nat.le_refl _) (tsr rfl (tsr rfl (tsr rfl (tsr rfl (tsr rfl (tsr rfl (TmSub.cons rfl (by rw [←hmi,if_neg hc5];exact .refl _) TmSub.nil))))))) (hsr rfl (hsr rfl (hsr rfl (HpSub.cons rfl (osub_nd0 rfl rfl rfl rfl rfl rfl rfl) (hsr rfl (HpSub.cons rfl (osub_nd0 rfl rfl rfl rfl rfl rfl rfl) HpSub.nil)))))))
  · skip
    (try dsimp only at hx ⊢)
    refine srg fun N h14=>?_
    refine sa ?_
    refine snl h14 ?_
    refine hw_seq (fun Nh15 h15=>?_)
    refine srg fun N h16=>?_
    refine sa ?_
    refine snl h16 ?_
    refine hw_block ?_
    refine hw_own 17 9117 5 55 ((ndsF [])) rfl (by decide) rfl (c':=c+1) rfl ?_
    refine hw_loopc (α:=Nat×Nat×List Bag×(Nat→Bag)×Nat×Nat×Nat) (fun x c=>⟨233,[(0,.v (.pt 9101 g1 0 0)),(1,.v (ptsV e)),(3,.v (mnsV l)),(8,.v (.pt 9208 k0 0 0)),(9,.v (.pt 9209 (k0+1) 0 0)),(10,.v (.pt 9210 (k0+3) 0 0)),(16,.v (intV (many:Int))),(17,.v (.os 9117 x.2.2.2.2.2.2 0 (pcsP g x.1).length)),(18,.v (intV (x.1:Int)))],[(9101,ndO g1 (.os 9102 x.2.2.2.2.1 0 x.2.1) (.os 9103 x.2.2.2.2.2.1 0 x.2.1) p0),(9102,lrO x.2.2.2.2.1 x.2.1 (onF x.2.2.1)),(9103,lrO x.2.2.2.2.2.1 x.2.1 x.2.2.2.1),(9208,ndO k0 nilS nilS default),(9209,⟨k0+1,1,5,27,0,fun _=>ptF p⟩),(9210,ndO (k0+3) nilS nilS Pc.nil),(9117,⟨x.2.2.2.2.2.2,(pcsP g x.1).length,5,55,0,ndsF (pcsP g x.1)⟩)],c⟩) (fun x=>x.1≤many∧x.2.1=M0+x.1 * u.w∧x.2.2.1=on++onP g x.1∧x.2.2.2.1=links β (lkP p.high g many x.1)) (fun x=>many - x.1) ((0,M0,on,β,g2,g3,c)) (by exact ⟨Nat.zero_le _,by simp,by simp [onP],by simp [lkP,links]⟩) (hsub_of rfl (Nat.le_refl _) (tsr rfl (tsr rfl (tsr rfl (tsr rfl (tsr rfl (tsr rfl (tsr rfl (tsr rfl (tsr rfl TmSub.nil))))))))) (hsr rfl (hsr rfl (hsr rfl (hsr rfl (hsr rfl (hsr rfl (hsr rfl HpSub.nil)))))))) (fun x c hx NhL17 hL17=>?_)
    revert hx hL17;obtain ⟨kk,MM,on1,be1,y2,y3,gr⟩:=x;intro hx hL17;dsimp only at hx hL17 ⊢
    obtain ⟨hk,hMM,hon1,hbe1⟩:=hx
    have hpl2:=pcsP_len g kk
    refine hw_seq (fun Nh18 h18=>?_)
    refine srg fun N h19=>?_
    refine sm ?_
    refine sm ?_
    refine s0 (hop_lss rfl rfl) ?_
    refine snl h19 ?_
    refine wc (fun hc6=>?_) (fun hc6=>?_)
    · have hr6 := hc6; (try simp only [hcs, Int.reduceToNat] at hc6)
      have hkm:kk < many:=(by omega);have hgo:=hg kk hkm;have hkw:=kw_le (w:=u.w) hkm;have hMw:MM+u.w≤256:=(by omega);have hL:=lkP_ok (hi:=p.high) hg kk hk;have hlen1:on1.length=MM:=(by rw [hon1,List.length_append,hon,onP_len hg kk hk,hMM]);have hbok:∀ q,(be1 q).ok:=(by rw [hbe1];exact links_ok hL hβ);have hbz:∀ q,MM≤q→q < 256→be1 q=Bag.zero:=(by rw [hbe1,hMM];exact links_zero hL (fun q hq hq2=>hz q (by omega) hq2));have hMg:lay m u MM=g kk:=(by rw [hMM];exact hgk kk);have hih:=fun c=>hiu c g1 y2 y3 MM on1 be1 p0 hlen1 hMw hbok hbz;simp only [hMg] at hih;have hine:InB (M0+kk * u.w) (MM+u.w) (g kk).pc.ends:=(by rw [hMM];exact hgo.inB.2);have hle:=list_le (g kk).pc.ends
      refine hw_skip ?_
      refine h18 _ ?_
      refine hw_seq (fun Nh20 h20=>?_)
      refine hw_block ?_
      refine srg fun N h21=>?_
      refine sm ?_
      refine sm ?_
      refine sf fd_27_4 ?_
      refine sl ty_25 ?_
      refine s0 (hop_ia_sl el_25 rfl rfl (by omega) (by omega) (nb rfl)) ?_
      refine s0 (HOp.val (v':=intV ((b+u.size - 1:Nat):Int)) (hop_load_fp ty_3 rfl (nb rfl) (fun h=>(by rfl))) (by exact kids_at (i:=0) (by omega) (by rw [hkid,hroot];unfold T.root;omega))) ?_
      refine sm ?_
      refine hf_callR 149 (xs:=[_,_,_,_]) (pre:=[(9101,_),(9102,_),(9103,_)]) (hih _) ⟨rfl,⟨rfl,⟨rfl,⟨rfl,trivial⟩⟩⟩⟩ (preC rfl (preC rfl (preC rfl pre0))) rfl rfl (fun x1 c1 hzz=>?_)
      obtain ⟨z2,z3⟩:=x1
      (try dsimp only)
      refine hm_1 19 (hop_alloc (id:=9219) (sz:=5) zc_55 rfl rfl (nb rfl) (nb rfl)) rfl rfl pre0 rfl rfl (c':=c1+1) rfl ?_
      refine sw (c1+2) ty_55 ?_
      refine snl h21 ?_
      refine hw_joinc (α:=Nat→Bag) (fun x c=>⟨233,[(0,.v (.pt 9101 g1 0 0)),(1,.v (ptsV e)),(3,.v (mnsV l)),(8,.v (.pt 9208 k0 0 0)),(9,.v (.pt 9209 (k0+1) 0 0)),(10,.v (.pt 9210 (k0+3) 0 0)),(16,.v (intV (many:Int))),(17,.v (.os 9117 gr 0 (pcsP g kk).length)),(18,.v (intV (kk:Int))),(19,.v (.pt 9219 c1 0 0))],[(9101,ndO g1 (.os 9102 z2 0 (MM+u.w)) (.os 9103 z3 0 (MM+u.w)) p0),(9102,lrO z2 (MM+u.w) (onF (on1++(g kk).on))),(9103,lrO z3 (MM+u.w) x),(9208,ndO k0 nilS nilS default),(9209,⟨k0+1,1,5,27,0,fun _=>ptF p⟩),(9210,ndO (k0+3) nilS nilS Pc.nil),(9117,⟨gr,(pcsP g kk).length,5,55,0,ndsF (pcsP g kk)⟩),(9219,ndO c1 nilS nilS (g kk).pc)],c⟩) (fun x=>x=links β (lkP p.high g many (kk+1))) (fun NhJ22 hJ22=>?_) (fun be2 c hx=>?_)
      · skip
        refine srg fun N h23=>?_
        refine sf fd_27_2 ?_
        refine sl ty_3 ?_
        refine s0 (hop_lss rfl rfl) ?_
        refine sm ?_
        refine gm 153 ?_
        refine gm 153 ?_
        refine stg 153 (fun hb=>hop_subi rfl rfl rfl (by (simp at hb;first | omega | (dsimp only;omega) | (simp <;> omega))) (by (simp at hb;first | omega | (dsimp only;omega) | (simp <;> omega)))) rfl rfl rfl rfl rfl ?_
        refine stg 153 (fun hb=>hop_eql rfl rfl) rfl rfl rfl rfl rfl ?_
        refine hq_p 158 (hstep_and _ _ rfl rfl rfl) rfl rfl rfl ?_
        refine nu ?_
        refine h23 _ ?_
        refine wc (fun hc7=>?_) (fun hc7=>?_)
        · have hr7 := hc7; (try simp only [hcs, Int.reduceToNat] at hc7)
          refine srg fun N h24=>?_
          refine sa ?_
          refine snl h24 ?_
          refine hw_block ?_
          refine hw_loopc (α:=Nat) (fun x c=>⟨233,[(0,.v (.pt 9101 g1 0 0)),(1,.v (ptsV e)),(3,.v (mnsV l)),(8,.v (.pt 9208 k0 0 0)),(9,.v (.pt 9209 (k0+1) 0 0)),(10,.v (.pt 9210 (k0+3) 0 0)),(16,.v (intV (many:Int))),(17,.v (.os 9117 gr 0 (pcsP g kk).length)),(18,.v (intV (kk:Int))),(19,.v (.pt 9219 c1 0 0)),(20,.v (intV (x:Int)))],[(9101,ndO g1 (.os 9102 z2 0 (MM+u.w)) (.os 9103 z3 0 (MM+u.w)) p0),(9102,lrO z2 (MM+u.w) (onF (on1++(g kk).on))),(9103,lrO z3 (MM+u.w) (linkI (g kk).pc.ends (g kk).pc.first (links be1 (g kk).lk) x)),(9208,ndO k0 nilS nilS default),(9209,⟨k0+1,1,5,27,0,fun _=>ptF p⟩),(9210,ndO (k0+3) nilS nilS Pc.nil),(9117,⟨gr,(pcsP g kk).length,5,55,0,ndsF (pcsP g kk)⟩),(9219,ndO c1 nilS nilS (g kk).pc)],c⟩) (fun x=>x≤(g kk).pc.ends.list.length) (fun x=>(g kk).pc.ends.list.length - x) (0) (by omega) (hsub_of rfl (Nat.le_refl _) (tsr rfl (tsr rfl (tsr rfl (tsr rfl (tsr rfl (tsr rfl (tsr rfl (tsr rfl (tsr rfl (tsr rfl (tsr rfl TmSub.nil))))))))))) (hsr rfl (hsr rfl (HpSub.cons rfl (osub_lrow fun p hp=>by show iListV _=_;rw [linkI_zero]) (hsr rfl (hsr rfl (hsr rfl (hsr rfl (HpSub.cons rfl (osub_ndv (by exact jn5 rfl rfl rfl rfl rfl)) HpSub.nil))))))))) (fun j c hx NhL25 hL25=>?_)
          (try dsimp only at hx hL25 ⊢)
          obtain hj:=hx
          refine hw_seq (fun Nh26 h26=>?_)
          refine srg fun N h27=>?_
          refine sm ?_
          refine sf fd_55_3 ?_
          refine sl ty_25 ?_
          refine s0 (hop_len_sl (T:=25) rfl (elOf_spec el_25).1 rfl) ?_
          refine s0 (hop_lss rfl rfl) ?_
          refine snl h27 ?_
          refine wc (fun hc8=>?_) (fun hc8=>?_)
          · have hr8 := hc8; (try simp only [hcs, Int.reduceToNat] at hc8)
            have hj':j < (g kk).pc.ends.list.length:=(by omega);obtain ⟨q,hq256,hqA,hq⟩:=list_lt (g kk).pc.ends hj';have hqM:=inB_lt hine q hq256 hqA
            refine hw_skip ?_
            refine h26 _ ?_
            refine hw_seq (fun Nh28 h28=>?_)
            refine hw_block ?_
            refine hd_start ?_
            refine dm 1 ?_
            refine dk 2 ?_
            refine df 3 fd_55_1 ?_
            refine dl 4 ty_53 ?_
            refine df 5 fd_55_3 ?_
            refine dl 6 ty_25 ?_
            refine dm 7 ?_
            refine d0 8 (hop_ia_sl el_25 rfl rfl (by omega) (by omega) (nb rfl)) ?_
            refine d0 9 (HOp.val (v':=intV (q:Int)) (hop_load_fp ty_3 rfl (nb rfl) (fun h=>(by rfl))) (congrArg intV hq)) ?_
            refine dm 10 ?_
            refine dk 11 ?_
            refine df 12 fd_55_1 ?_
            refine dl 13 ty_53 ?_
            refine df 14 fd_55_3 ?_
            refine dl 15 ty_25 ?_
            refine dm 16 ?_
            refine d0 17 (hop_ia_sl el_25 rfl rfl (by omega) (by omega) (nb rfl)) ?_
            refine d0 18 (HOp.val (v':=intV (q:Int)) (hop_load_fp ty_3 rfl (nb rfl) (fun h=>(by rfl))) (congrArg intV hq)) ?_
            refine hd_q 184 (hol_ia_os el_53 rfl rfl (by omega) (by omega)) rfl rfl (pre1 rfl) rfl rfl (k':=19) rfl ?_
            refine hd_q 185 (hol_load ty_25 rfl (by omega) (nb rfl) (fun h=>(by rfl))) rfl rfl (pre1 rfl) rfl rfl (k':=20) rfl ?_
            refine df 21 fd_55_2 ?_
            refine dl 22 ty_25 ?_
            refine d0 23 (hop_call0 (xs:=[_,_]) (refOr_h (linkI (g kk).pc.ends (g kk).pc.first (links be1 (g kk).lk) j q) (g kk).pc.first) ⟨rfl,⟨rfl,trivial⟩⟩ ⟨(Fz.eq (by rw [Nat.zero_add];rfl)),⟨(Fz.eq rfl),trivial⟩⟩) ?_
            refine hd_q 189 (hol_ia_os el_53 rfl rfl (by omega) (by omega)) rfl rfl (pre1 rfl) rfl rfl (k':=24) rfl ?_
            refine hd_s1 (hol_store ty_25 rfl rfl rfl rfl (by omega) (nb rfl) (nb rfl)) rfl rfl (pre1 rfl) (k':=25) rfl ?_
            refine hd_nil (by kernel_rfl) (by kernel_rfl) (c':=c+25) rfl ?_
            refine hq_block ?_
            refine h28 _ ?_
            refine hw_region ?_
            refine sm ?_
            refine s0 (hop_addi rfl rfl rfl (by omega) (by omega)) ?_
            refine sa ?_
            refine hseq_nil ?_
            exact hL25 (j+1) _ _ (by (try dsimp only);omega) (by (try dsimp only);omega) (hsub_of rfl (Nat.le_refl _) (tsr rfl (tsr rfl (tsr rfl (tsr rfl (tsr rfl (tsr rfl (tsr rfl (tsr rfl (tsr rfl (tsr rfl (tsr rfl TmSub.nil))))))))))) (hsr rfl (hsr rfl (HpSub.cons rfl (osub_lrow fun p hp=>upd_lrow.trans (by rw [linkI_succ _ _ _ hj' hq,Nat.zero_add];rfl)) (hsr rfl (hsr rfl (hsr rfl (hsr rfl (hsr rfl HpSub.nil)))))))))
          have hr8:=hc8;(try simp only [hcs,Int.reduceToNat] at hc8)
          have hje:j=(g kk).pc.ends.list.length:=(by omega)
          refine hw_exit ?_
          refine hq_then_exit ?_
          refine hq_then_exit ?_
          refine hq_block_here ?_
          exact hJ22 (linkF (links be1 (g kk).lk) ((g kk).pc.ends,(g kk).pc.first)) _ _ (by (try dsimp only);rw [hbe1];simp only [lkP];rw [if_pos (by omega),links_app,links_app];rfl) (hsub_of rfl (Nat.le_refl _) (tsr rfl (tsr rfl (tsr rfl (tsr rfl (tsr rfl (tsr rfl (tsr rfl (tsr rfl (tsr rfl (tsr rfl TmSub.nil)))))))))) (hsr rfl (hsr rfl (HpSub.cons rfl (osub_lrow fun p hp=>by show iListV _=_;rw [hje,linkI_end _ _ _ (by omega)]) (hsr rfl (hsr rfl (hsr rfl (hsr rfl (hsr rfl HpSub.nil)))))))))
        have hr7:=hc7;(try simp only [hcs,Int.reduceToNat] at hc7)
        refine hw_skip ?_
        exact hJ22 (links be1 (g kk).lk) _ _ (by (try dsimp only);rw [hbe1];simp only [lkP];rw [if_neg (fun h=>by simp [h.1] at hc7;omega),List.append_nil,links_app]) (hsub_of rfl (Nat.le_refl _) (tsr rfl (tsr rfl (tsr rfl (tsr rfl (tsr rfl (tsr rfl (tsr rfl (tsr rfl (tsr rfl (tsr rfl TmSub.nil)))))))))) (hsr rfl (hsr rfl (hsr rfl (hsr rfl (hsr rfl (hsr rfl (hsr rfl (HpSub.cons rfl (osub_ndv (by exact jn5 rfl rfl rfl rfl rfl)) HpSub.nil)))))))))
      · skip
        (try dsimp only at hx ⊢)
        refine hw_region ?_
        refine sm ?_
        refine st1 (HOp.val (v':=ndV (g kk).pc) (hol_load ty_55 rfl (nb rfl) (nb rfl) (fun h=>(by cases h))) (rfl)) rfl rfl rfl ?_
        refine hm_1 192 (hop_buildSlice (id:=9392) (hs:=[_]) ei_132 (nb rfl) rfl (nb rfl) ⟨rfl,rfl,rfl,rfl,trivial⟩) rfl rfl pre0 rfl rfl (c':=c+1) rfl ?_
        refine hm_1 193 (hol_append ei_132 (nb rfl) rfl (by omega) (nb rfl) (srl_os0 rfl (nb rfl)) (by omega) rfl) rfl rfl (preC rfl (pre1 rfl)) rfl rfl (c':=c+2) rfl ?_
        refine sa ?_
        refine hseq_nil ?_
        refine hq_block ?_
        refine h20 _ ?_
        refine hw_region ?_
        refine sm ?_
        refine s0 (hop_addi rfl rfl rfl (by omega) (by omega)) ?_
        refine sa ?_
        refine hseq_nil ?_
        exact hL17 ((kk+1,MM+u.w,on1++(g kk).on,be2,z2,z3,c+1)) _ _ (by (try dsimp only);exact ⟨by omega,by rw [hMM,Nat.succ_mul,Nat.add_assoc],by rw [hon1,List.append_assoc];rfl,hx⟩) (by (try dsimp only);omega) (hsub_of rfl (Nat.le_refl _) (tsr rfl (tsr rfl (tsr rfl (tsr rfl (tsr rfl (tsr rfl (tsr rfl (TmSub.cons rfl (sb_os (by simp [pcsP])) (tsr rfl TmSub.nil))))))))) (hsr rfl (hsr rfl (hsr rfl (hsr rfl (hsr rfl (hsr rfl (HpSub.cons rfl (by exact osub_snoc (enc:=fun x=>ndF nilS nilS x 0) (d:=default) rfl (fun i j _ _=>.refl _) (fun j hj=>.refl _)) HpSub.nil))))))))
    have hr6:=hc6;(try simp only [hcs,Int.reduceToNat] at hc6)
    have hkm:kk=many:=(by omega);have hMm:MM=M0+many * u.w:=(by rw [hMM,hkm]);have hM256:MM≤256:=(by omega);have hL:=lkP_ok (hi:=p.high) hg kk hk;have hbok:∀ q,(be1 q).ok:=(by rw [hbe1];exact links_ok hL hβ)
    refine hw_exit ?_
    refine hq_then_exit ?_
    refine hq_then_exit ?_
    refine hq_block_here ?_
    refine h15 _ ?_
    refine hw_seq (fun Nh29 h29=>?_)
    refine srg fun N h30=>?_
    refine sa ?_
    refine snl h30 ?_
    refine hw_block ?_
    refine hw_loopc (α:=Nat×(Nat→Bag)) (fun x c=>⟨233,[(0,.v (.pt 9101 g1 0 0)),(8,.v (.pt 9208 k0 0 0)),(9,.v (.pt 9209 (k0+1) 0 0)),(10,.v (.pt 9210 (k0+3) 0 0)),(16,.v (intV (many:Int))),(17,.v (.os 9117 gr 0 (pcsP g kk).length)),(21,.v (intV (x.1:Int)))],[(9101,ndO g1 (.os 9102 y2 0 MM) (.os 9103 y3 0 MM) p0),(9102,lrO y2 MM (onF on1)),(9103,lrO y3 MM x.2),(9208,ndO k0 nilS nilS default),(9209,⟨k0+1,1,5,27,0,fun _=>ptF p⟩),(9210,ndO (k0+3) nilS nilS (outJ g x.1)),(9117,⟨gr,(pcsP g kk).length,5,55,0,ndsF (pcsP g kk)⟩)],c⟩) (fun x=>x.1≤many∧x.1≤p.low.toNat∧x.2=links be1 (lkJ g x.1)) (fun x=>many - x.1) ((0,be1)) (by exact ⟨Nat.zero_le _,Nat.zero_le _,by simp [lkJ,links]⟩) (hsub_of rfl (Nat.le_refl _) (tsr rfl (tsr rfl (tsr rfl (tsr rfl (tsr rfl (tsr rfl (tsr rfl TmSub.nil))))))) (hsr rfl (hsr rfl (hsr rfl (hsr rfl (hsr rfl (hsr rfl (hsr rfl HpSub.nil)))))))) (fun x c hx NhL31 hL31=>?_)
    revert hx hL31;obtain ⟨k2,be3⟩:=x;intro hx hL31;dsimp only at hx hL31 ⊢
    obtain ⟨hk2,hk2l,hbe3⟩:=hx
    have hJ:=lkJ_ok hg k2 hk2;have hO:=outJ_ok hg k2 hk2;have hkk2:M0+k2 * u.w≤MM:=(by have:=Nat.mul_le_mul_right u.w hk2;omega);have hb3:∀ q,(be3 q).ok:=(by rw [hbe3];exact links_ok hJ hbok);have hino:InB M0 MM (outJ g k2).ends:=hO.2.2.mono (Nat.le_refl _) hkk2
    refine hw_seq (fun Nh32 h32=>?_)
    refine srg fun N h33=>?_
    refine sm ?_
    refine sm ?_
    refine s0 (hop_lss rfl rfl) ?_
    refine sm ?_
    refine gm 197 ?_
    refine stg 197 (fun hb=>hop_fa fd_27_1 rfl) rfl rfl rfl rfl rfl ?_
    refine hq_g 200 3 197 true _ (fun hb=>hol_load ty_3 rfl (nb rfl) (nb rfl) (fun h=>(by rfl))) rfl rfl rfl rfl (pre1 rfl) rfl rfl rfl ?_
    refine stg 197 (fun hb=>hop_lss rfl rfl) rfl rfl rfl rfl rfl ?_
    refine hq_p 202 (hstep_and _ _ rfl rfl rfl) rfl rfl rfl ?_
    refine nu ?_
    refine h33 _ ?_
    refine wc (fun hc9=>?_) (fun hc9=>?_)
    · have hr9 := hc9; (try simp only [hcs, Int.reduceToNat] at hc9)
      have hk2m:k2 < many:=(by omega);have hk2p:k2 < p.low.toNat:=(by omega);have hgo:=hg k2 hk2m
      refine hw_skip ?_
      refine h32 _ ?_
      refine hw_seq (fun Nh34 h34=>?_)
      refine hw_block ?_
      refine hw_region ?_
      refine sm ?_
      refine sm ?_
      refine sm ?_
      refine st1 (hol_ia_os el_132 rfl rfl (by omega) (by omega)) rfl rfl rfl ?_
      refine st1 (HOp.val (v':=ndV (g k2).pc) (hol_load ty_55 rfl (by omega) (nb rfl) (fun h=>(by cases h))) (nds_at (l:=pcsP g kk) (i:=k2) (by rw [hkm];exact pcsP_get g many k2 hk2m) (fun j=>by simp only [Nat.zero_add];rfl))) rfl rfl rfl ?_
      refine hm_ 210 (hop_funD (xs:=[_,_,_]) (pre:=[(9101,_),(9102,_),(9103,_),(9210,_)]) (seq_h9210 (outJ g k2) (g k2).pc hO.1 hgo.pc MM g1 y2 y3 (k0+3) (onF on1) be3 p0 (inB_lt hino) hM256) ((clkS rfl rfl rfl rfl)) ⟨rfl,⟨rfl,⟨rfl,trivial⟩⟩⟩) rfl rfl (preC rfl (preC rfl (preC rfl (preC rfl pre0)))) rfl rfl (c':=c+1) rfl ?_
      refine hseq_nil ?_
      refine hq_block ?_
      refine h34 _ ?_
      refine hw_region ?_
      refine sm ?_
      refine s0 (hop_addi rfl rfl rfl (by omega) (by omega)) ?_
      refine sa ?_
      refine hseq_nil ?_
      exact hL31 ((k2+1,linkF be3 ((outJ g k2).ends,(g k2).pc.first))) _ _ (by (try dsimp only);exact ⟨by omega,by omega,by rw [hbe3];simp only [lkJ];rw [links_app];rfl⟩) (by (try dsimp only);omega) (hsub_of rfl (Nat.le_refl _) (tsr rfl (tsr rfl (tsr rfl (tsr rfl (tsr rfl (tsr rfl (tsr rfl TmSub.nil))))))) (hsr rfl (hsr rfl (hsr rfl (hsr rfl (hsr rfl (hsr rfl (hsr rfl HpSub.nil))))))))
    have hr9:=hc9;(try simp only [hcs,Int.reduceToNat] at hc9)
    have hke:k2=min many p.low.toNat:=(by have h:=hr9;simp at h;omega);let kt:=c
    refine hw_exit ?_
    refine hq_then_exit ?_
    refine hq_then_exit ?_
    refine hq_block_here ?_
    refine h29 _ ?_
    refine srg fun N h35=>?_
    refine s0 (hop_build (hs:=[(4,1,_)]) st_55 rfl rfl ⟨rfl,rfl,rfl,rfl,rfl,trivial⟩) ?_
    refine hm_1 22 (hop_alloc (id:=9222) (sz:=5) zc_55 rfl rfl (nb rfl) (nb rfl)) rfl rfl pre0 rfl rfl (c':=c+1) rfl ?_
    refine sw (c+2) ty_55 ?_
    refine snl h35 ?_
    refine hw_seq (fun Nh36 h36=>?_)
    refine srg fun N h37=>?_
    refine sm ?_
    refine s0 (hop_subi rfl rfl rfl (by omega) (by omega)) ?_
    refine sa ?_
    refine snl h37 ?_
    refine hw_block ?_
    refine hw_loopc (α:=Nat×(Nat→Bag)×Pc) (fun x c=>⟨233,[(0,.v (.pt 9101 g1 0 0)),(8,.v (.pt 9208 k0 0 0)),(9,.v (.pt 9209 (k0+1) 0 0)),(10,.v (.pt 9210 (k0+3) 0 0)),(17,.v (.os 9117 gr 0 (pcsP g kk).length)),(22,.v (.pt 9222 kt 0 0)),(23,.v (intV ((many:Int) - 1 - (x.1:Int))))],[(9101,ndO g1 (.os 9102 y2 0 MM) (.os 9103 y3 0 MM) p0),(9102,lrO y2 MM (onF on1)),(9103,lrO y3 MM x.2.1),(9208,ndO k0 nilS nilS default),(9209,⟨k0+1,1,5,27,0,fun _=>ptF p⟩),(9210,ndO (k0+3) nilS nilS (outJ g k2)),(9117,⟨gr,(pcsP g kk).length,5,55,0,ndsF (pcsP g kk)⟩),(9222,ndO kt nilS nilS x.2.2)],c⟩) (fun x=>x.1≤R.length∧x.2.1=links be3 (tailB (R.drop (R.length - x.1))).1∧x.2.2=(tailB (R.drop (R.length - x.1))).2) (fun x=>R.length - x.1) ((0,be3,Pc.nil)) (by exact ⟨Nat.zero_le _,by simp [tailB,links],by simp [tailB]⟩) (hsub_of rfl (Nat.le_refl _) (tsr rfl (tsr rfl (tsr rfl (tsr rfl (tsr rfl (tsr rfl (TmSub.cons rfl (sb_int (by omega)) TmSub.nil))))))) (hsr rfl (hsr rfl (hsr rfl (hsr rfl (hsr rfl (hsr rfl (hsr rfl (HpSub.cons rfl (osub_nd0 rfl rfl rfl rfl rfl rfl rfl) HpSub.nil))))))))) (fun x c hx NhL38 hL38=>?_)
    revert hx hL38;obtain ⟨j4,be4,ta4⟩:=x;intro hx hL38;dsimp only at hx hL38 ⊢
    obtain ⟨hj4,hbe4,hta4⟩:=hx
    have htt:=tailB_ok (N:=M0) (M:=M0+many * u.w) (l:=R.drop (R.length - j4)) (fun x hx=>hRo x (List.mem_of_mem_drop hx));have hto:ta4.ok:=(by rw [hta4];exact htt.2.1);have hb4:∀ q,(be4 q).ok:=(by rw [hbe4];exact links_ok htt.1 hb3)
    refine hw_seq (fun Nh39 h39=>?_)
    refine srg fun N h40=>?_
    refine sm ?_
    refine sf fd_27_1 ?_
    refine sl ty_3 ?_
    refine s0 (hop_geq rfl rfl) ?_
    refine snl h40 ?_
    refine wc (fun hc10=>?_) (fun hc10=>?_)
    · have hr10 := hc10; (try simp only [hcs, Int.reduceToNat] at hc10)
      have hjl:j4 < R.length:=(by omega);have hxm:=hRo _ (getD_mem (l:=R) (j:=R.length - 1 - j4) (by omega));have hxin:InB M0 MM (R.getD (R.length - 1 - j4) default).ends:=(by rw [hMm];exact hxm.2.2);have hidx:many - 1 - j4 < many:=(by omega);have hRg:(g (many - 1 - j4)).pc=R.getD (R.length - 1 - j4) default:=(by rw [hR,restP_get _ _ _ _ (by rw [restP_len] ; omega),restP_len];congr 2;omega)
      refine hw_skip ?_
      refine h39 _ ?_
      refine hw_seq (fun Nh41 h41=>?_)
      refine hw_block ?_
      refine srg fun N h42=>?_
      refine sm ?_
      refine s0 (HOp.val (v':=intV ((many - 1 - j4:Nat):Int)) (hop_move rfl) (congrArg intV (by omega))) ?_
      refine st1 (hol_ia_os el_132 rfl rfl (by omega) (by omega)) rfl rfl rfl ?_
      refine st1 (HOp.val (v':=ndV (R.getD (R.length - 1 - j4) default)) (hol_load ty_55 rfl (by omega) (nb rfl) (fun h=>(by cases h))) (nds_at (l:=pcsP g kk) (i:=many - 1 - j4) (by rw [hkm,pcsP_get g many _ hidx];exact hRg) (fun j=>by simp only [Nat.zero_add];rfl))) rfl rfl rfl ?_
      refine hm_1 24 (hop_alloc (id:=9224) (sz:=5) zc_55 rfl rfl (nb rfl) (nb rfl)) rfl rfl pre0 rfl rfl (c':=c+1) rfl ?_
      refine sw (c+2) ty_55 ?_
      refine snl h42 ?_
      refine srg fun N h43=>?_
      refine sm ?_
      refine st1 (HOp.val (v':=ndV ta4) (hol_load ty_55 rfl (nb rfl) (nb rfl) (fun h=>(by cases h))) (rfl)) rfl rfl rfl ?_
      refine hm_ 226 (hop_funD (xs:=[_,_,_]) (pre:=[(9101,_),(9102,_),(9103,_),(9224,_)]) (seq_h9224 (R.getD (R.length - 1 - j4) default) ta4 hxm.1 hto MM g1 y2 y3 _ (onF on1) be4 p0 (inB_lt hxin) hM256) ((clkS rfl rfl rfl rfl)) ⟨rfl,⟨rfl,⟨rfl,trivial⟩⟩⟩) rfl rfl (preC rfl (preC rfl (preC rfl (preC rfl pre0)))) rfl rfl (c':=c+3) rfl ?_
      refine snl h43 ?_
      refine srg fun N h44=>?_
      refine sf fd_55_4 ?_
      refine sx (c+4) ty_4 ?_
      refine snl h44 ?_
      refine hw_region ?_
      refine sl ty_55 ?_
      refine sw (c+5) ty_55 ?_
      refine hseq_nil ?_
      refine hq_block ?_
      refine h41 _ ?_
      refine hw_region ?_
      refine sm ?_
      refine s0 (hop_subi rfl rfl rfl (by omega) (by omega)) ?_
      refine sa ?_
      refine hseq_nil ?_
      exact hL38 ((j4+1,linkF be4 ((R.getD (R.length - 1 - j4) default).ends,ta4.first),{ (R.getD (R.length - 1 - j4) default).join ta4 with empty:=true })) _ _ (by (try dsimp only);exact ⟨by omega,by rw [drop_at hjl,hbe4,hta4];simp only [tailB];rw [links_app];rfl,by rw [drop_at hjl,hta4];rfl⟩) (by (try dsimp only);omega) (hsub_of rfl (Nat.le_refl _) (tsr rfl (tsr rfl (tsr rfl (tsr rfl (tsr rfl (tsr rfl (TmSub.cons rfl (sb_int (by omega)) TmSub.nil))))))) (hsr rfl (hsr rfl (hsr rfl (hsr rfl (hsr rfl (hsr rfl (hsr rfl (HpSub.cons rfl (osub_ndv (by exact jn5 rfl rfl rfl rfl rfl)) HpSub.nil)))))))))
    have hr10:=hc10;(try simp only [hcs,Int.reduceToNat] at hc10)
    have hje:j4=R.length:=(by omega);have hta:ta4=(tailB R).2:=(by rw [hta4,hje,Nat.sub_self,List.drop_zero]);have hbe:be4=links be3 (tailB R).1:=(by rw [hbe4,hje,Nat.sub_self,List.drop_zero])
    refine hw_exit ?_
    refine hq_then_exit ?_
    refine hq_then_exit ?_
    refine hq_block_here ?_
    refine h36 _ ?_
    refine srg fun N h45=>?_
    refine sm ?_
    refine st1 (HOp.val (v':=ndV ta4) (hol_load ty_55 rfl (nb rfl) (nb rfl) (fun h=>(by cases h))) (rfl)) rfl rfl rfl ?_
    refine hm_ 231 (hop_funD (xs:=[_,_,_]) (pre:=[(9101,_),(9102,_),(9103,_),(9210,_)]) (seq_h9210 (outJ g k2) ta4 hO.1 hto MM g1 y2 y3 (k0+3) (onF on1) be4 p0 (inB_lt hino) hM256) ((clkS rfl rfl rfl rfl)) ⟨rfl,⟨rfl,⟨rfl,trivial⟩⟩⟩) rfl rfl (preC rfl (preC rfl (preC rfl (preC rfl pre0)))) rfl rfl (c':=c+1) rfl ?_
    refine snl h45 ?_
    refine srg fun N h46=>?_
    refine sl ty_55 ?_
    refine sw (c+2) ty_55 ?_
    refine snl h46 ?_
    refine hw_ret ?_
    refine hf_retR1 ok hX RetS.one rfl (rvl_cell rfl rfl ty_55 (fun h=>by first | rfl | cases h) rfl rfl) [] rfl pre0 ((y2,y3)) (trivial) (by rfl) (by rfl) ((by rw [hdoc.2.2,←hke,←hta];exact kz_nd (by exact jn5 rfl rfl rfl rfl rfl))) ?_
    exact ⟨⟨_,rfl,(by rw [←hMm];exact okz_netD rfl rfl rfl rfl)⟩,⟨⟨_,rfl,(by rw [←hMm,hdoc.1,hon1,hkm];exact okz_lrow (fun _ _=>rfl))⟩,⟨⟨_,rfl,(by rw [←hMm,←hdoc.2.1,←hke,←hta];exact okz_lrow (fun q _=>by rw [hbe,hbe3,hbe1,hkm];rfl))⟩,trivial⟩⟩⟩
theorem manyP_ex (k:Int) (out:List Pt) (ks:List Int):∃ y,manyP k out ks y:=by
  unfold manyP
  split
  · exact ⟨(0,out,ks.getD 0 0),rfl⟩
  · exact ⟨(0,out++[⟨k,0,0,[],ks⟩],(out.length:Int)),rfl⟩
theorem ex_item {l:List Sg} (hk:KdOk l) (hne:l≠[]) {p:Nat} (hp:p≤l.length) (out:List Pt) (hc:∀ p',p < p'→p'≤l.length→∀ out,∃ x,RsOk l 3 p' out x):∃ x,RsOk l 1 p out x:=by
  by_cases h1:kd l p=1
  · by_cases h5 : kd l (p + 1) = 5
    · exact ⟨_,ok_name5 (g:=0) h1 h5⟩
    · exact ⟨_,ok_name (g:=0) h1 h5⟩
  · by_cases h2 : kd l p = 2
    · have hlt := kd_lt (l := l) (i := p) (by rw [h2]; decide)
      obtain ⟨⟨t,q,g,o,r⟩,hx⟩:=hc (p+1) (by omega) (by omega) out
      cases t with
      | none=>exact ⟨_,ok_bad hk hx h2 (.inl rfl)⟩
      | some t =>
        by_cases h3:kd l q=3
        · by_cases h5 : kd l (q + 1) = 5
          · exact ⟨_,ok_group5 (g':=0) hx h2 h3 h5⟩
          · exact ⟨_,ok_group hx h2 h3 h5⟩
        · exact ⟨_,ok_bad hk hx h2 (.inr h3)⟩
    · exact ⟨⟨none,p,0,out,-1⟩,bad_first hne hp h1 h2,by simp⟩
theorem ex_rowI {l:List Sg} {p:Nat} {out:List Pt} (hi:∀ p',p≤p'→p'≤l.length→∀ out,∃ x,RsOk l 1 p' out x):∀ (n:Nat) (bad:Bool) (q:Nat) (o:List Pt) (ks:List Int),2 * (l.length - q)+(if bad then 0 else 1) < n→RowI l p out bad q o ks→∃ x,RsOk l 2 p out x
  | 0,_,_,_,_,h,_=>absurd h (Nat.not_lt_zero _)
  | n + 1, bad, q, o, ks, h, hI => by
    by_cases hk:bad=true∨(kd l q≠1∧kd l q≠2)
    · obtain ⟨tt, _, hd⟩ := row_done hI hk
      obtain ⟨y,hy⟩:=manyP_ex 2 o ks
      exact ⟨_,hd y hy⟩
    · have hb : bad = false := by cases bad with | true => exact absurd (.inl rfl) hk | false => rfl
      subst hb
      have hkq:kd l q=1∨kd l q=2:=by
        by_cases h1:kd l q=1
        · exact .inl h1
        · by_cases h2 : kd l q = 2
          · exact .inr h2
          · exact absurd (.inr ⟨h1,h2⟩) hk
      obtain ⟨⟨t,q',g,o',r⟩,hx⟩:=hi q hI.2.1 hI.2.2.1 o
      have:=rs_meas hx
      exact ex_rowI hi n t.isNone q' o' (ks++[r]) (by omega) (row_next hI hkq hx)
theorem ex_row {l:List Sg} {p:Nat} (hp:p≤l.length) (out:List Pt) (hi:∀ p',p≤p'→p'≤l.length→∀ out,∃ x,RsOk l 1 p' out x):∃ x,RsOk l 2 p out x:=by
  obtain ⟨⟨t,q,g,o,r⟩,hx⟩:=hi p (Nat.le_refl _) hp out
  exact ex_rowI hi _ _ _ _ _ (Nat.lt_succ_self _) (row_start hx)
theorem ex_chI {l:List Sg} {p:Nat} {out:List Pt} (hi:∀ p',p≤p'→p'≤l.length→∀ out,∃ x,RsOk l 2 p' out x):∀ (n:Nat) (bad:Bool) (q:Nat) (o:List Pt) (ks:List Int),2 * (l.length - q)+(if bad then 0 else 1) < n→ChI l p out bad q o ks→∃ x,RsOk l 3 p out x
  | 0,_,_,_,_,h,_=>absurd h (Nat.not_lt_zero _)
  | n + 1, bad, q, o, ks, h, hI => by
    by_cases hk:bad=true∨kd l q≠4
    · obtain ⟨tt, _, hd⟩ := ch_done hI hk
      obtain ⟨y,hy⟩:=manyP_ex 3 o ks
      exact ⟨_,hd y hy⟩
    · have hb : bad = false := by cases bad with | true => exact absurd (.inl rfl) hk | false => rfl
      subst hb
      have hkq:kd l q=4:=Classical.byContradiction fun h'=>hk (.inr h')
      have hlt:=kd_lt (l:=l) (i:=q) (by rw [hkq];decide)
      have hpq:=hI.2.1
      obtain ⟨⟨t,q',g,o',r⟩,hx⟩:=hi (q+1) (by omega) (by omega) o
      have:=ch_meas hlt hx
      exact ex_chI hi n t.isNone q' o' (ks++[r]) (by omega) (ch_next hI hkq hx)
theorem ex_choice {l:List Sg} {p:Nat} (hp:p≤l.length) (out:List Pt) (hi:∀ p',p≤p'→p'≤l.length→∀ out,∃ x,RsOk l 2 p' out x):∃ x,RsOk l 3 p out x:=by
  obtain ⟨⟨t,q,g,o,r⟩,hx⟩:=hi p (Nat.le_refl _) hp out
  exact ex_chI hi _ _ _ _ _ (Nat.lt_succ_self _) (ch_start hx)
theorem ex_read {l:List Sg} (hk:KdOk l) (hne:l≠[]):∀ n p,l.length - p < n→p≤l.length→∀ out,∃ x,RsOk l 3 p out x
  | 0,p,h,_,_=>absurd h (Nat.not_lt_zero _)
  | n+1,p,h,hp,out=>ex_choice hp out fun p1 h1 hp1 out1=>ex_row hp1 out1 fun p2 h2 hp2 out2=>ex_item hk hne hp2 out2 fun p3 h3 hp3 out3=>ex_read hk hne n p3 (by omega) hp3 out3
theorem parse_ex (s:List UInt8):∃ r,ParseIs s r:=by
  cases hv:lexV s with
  | error e=>exact ⟨_,.err e hv⟩
  | ok l =>
    by_cases hne:l=[]
    · subst hne;exact ⟨_,.none hv⟩
    · have hk := sgW_kd (lexV_W hv)
      obtain ⟨x,hx⟩:=ex_read hk hne _ 0 (Nat.lt_succ_self _) (Nat.zero_le _) []
      by_cases hq:x.q < l.length
      · exact ⟨_,parse_odd hv hk hne hx hq⟩
      · cases hb : x.t.isNone with
        | true=>exact ⟨_,parse_end hv hne hx (by omega) hb⟩
        | false=>exact ⟨_,parse_ok hv hx (by omega) hb⟩
theorem part_one (l:List Mn) (hB:MnB l) (e:List Pt) (he:e.length≤100000) (b:Nat) (t:T) (hok:t.ok=true) (hat:AtP e b (T.flat b t)) (hkl:t.kidsT.length≤100000)
    (ih:∀ i,i < t.kidsT.length→LayD l e (b+T.sizeL (t.kidsT.take i)) (t.kidsT.getD i default)):LayD l e b t:=by
  by_cases h:t.kind=4
  · exact part_times l hB e he b t h hok hat hkl ih
  · exact part_row l hB e he b t h hok hat hkl ih
mutual
theorem partT_h (l:List Mn) (hB:MnB l) (e:List Pt) (he:e.length≤100000):∀ (t:T) (b:Nat),t.ok=true→AtP e b (T.flat b t)→LayD l e b t
  | .name s,b,hok,hat=>part_one l hB e he b (.name s) hok hat (Nat.zero_le _) (fun i hi=>absurd hi (Nat.not_lt_zero _))
  | .times lo hi t, b, hok, hat => by
    have hok':t.ok=true:=by simp only [T.ok,Bool.and_eq_true] at hok;exact hok.2
    refine part_one l hB e he b (.times lo hi t) hok hat (by simp [T.kidsT]) (fun i hi=>?_)
    obtain rfl:i=0:=by simpa [T.kidsT] using hi
    have:=partT_h l hB e he t b hok' (by simp only [T.flat] at hat;exact atP_left hat)
    simpa [T.kidsT,T.sizeL] using this
  | .many k ts, b, hok, hat => by
    have hok':T.okL ts=true:=by simp only [T.ok,Bool.and_eq_true] at hok;exact hok.2
    have hkl:(T.many k ts).kidsT.length≤100000:=by
      have:=kids_few2 (t:=.many k ts);have:=(at_top hat).2;omega
    exact part_one l hB e he b (.many k ts) hok hat hkl (fun i hi=>partL_h l hB e he ts hok' i hi _ (kids_at' hat hi))
theorem partL_h (l:List Mn) (hB:MnB l) (e:List Pt) (he:e.length≤100000):∀ ts:List T,T.okL ts=true→∀ i,i < ts.length→∀ b,AtP e b (T.flat b (ts.getD i default))→LayD l e b (ts.getD i default)
  | [],_,i,hi=>absurd hi (Nat.not_lt_zero _)
  | t :: ts, hok, i, hi => fun b hat => by
    simp only [T.okL,Bool.and_eq_true] at hok
    cases i with
    | zero=>exact partT_h l hB e he t b hok.1 hat
    | succ i=>exact partL_h l hB e he ts hok.2 i (by simpa using hi) b (by simpa using hat)
end
@[reducible] def ndR (M:Nat) (on:List Bag) (β:Nat→Bag) (p:Pc):HV:=.agg 5 (ndF (.sl 1 M (lrF (onF on))) (.sl 1 M (lrF β)) p 0)
instance frz_ndR (M:Nat) (on:List Bag) (β:Nat→Bag) (p:Pc):Frz (ndR M on β p):=⟨.agg _ _ _ (by exact jn5 (.sl _ _ _ _ fun _ _ _ _=>Frz.fz) (.sl _ _ _ _ fun _ _ _ _=>Frz.fz) (show Fz _ (iListV p.first.list) (iListV p.first.list) from Frz.fz) (show Fz _ (iListV p.ends.list) (iListV p.ends.list) from Frz.fz) (.imm _))⟩
theorem fz_ndR {sh:List (Nat×HObj)} {M:Nat} {on:List Bag} {β:Nat→Bag} {p:Pc} {f:Nat→HV} (h0:Fz sh (f 0) (.sl 1 M (lrF (onF on)))) (h1:Fz sh (f 1) (.sl 1 M (lrF β))) (h2:Fz sh (f 2) (iListV p.first.list)) (h3:Fz sh (f 3) (iListV p.ends.list)) (h4:f 4=boolV p.empty):Fz sh (.agg 5 f) (ndR M on β p) :=
  .agg _ _ _ (by exact jn5 h0 h1 h2 h3 (by rw [h4];exact .imm _))
theorem fz_zl {sh:List (Nat×HObj)}:Fz sh nilS (iListV Bag.zero.list):=by rw [zero_list];exact .nil 0 1 _ (by decide) none
theorem fz_lrow {sh:List (Nat×HObj)} {id g n n':Nat} {γ γ':Nat→Bag} (ho:(id,lrO g n γ)∈sh) (hn:n'=n) (h:∀ i,i < n→γ i=γ' i):Fz sh (.os id g 0 n') (.sl 1 n' (lrF γ')):=by
  subst hn
  refine Fz.os id g 0 n' (lrO g n' γ) _ ho rfl (by show 0+n'≤n';omega) (fun i j hi hj=>?_)
  show Fz sh (iListV (γ (0+i)).list) (iListV (γ' i).list)
  rw [Nat.zero_add,h i hi];exact Frz.fz
def nd2 (a b:HV):Nat→Nat→HV:=fun _ j=>match j with | 0=>a | 1=>b | 2=>nilS | 3=>nilS | _=>boolV true
theorem refNil_h (l:List Mn):HPure Tryz.prog 26 [ptsV [],mnsV l] (ndR 0 [] (fun _=>Bag.zero) Pc.nil):=by
  refine hpure_of Tryz.func26 rfl (by kernel_rfl) _ _ _ rfl 28 rfl rfl (fun w F=>?_)
  refine srg fun N h1=>?_
  refine hm_1 4 (hop_alloc (id:=4) (sz:=5) zc_55 rfl rfl (nb rfl) (nb rfl)) rfl rfl pre0 rfl rfl (c':=1) rfl ?_
  refine snl h1 ?_
  refine srg fun N h2=>?_
  refine s0 (hop_build (hs:=[(4,1,_)]) st_55 rfl rfl ⟨rfl,rfl,rfl,rfl,rfl,trivial⟩) ?_
  refine hm_1 5 (hop_alloc (id:=5) (sz:=5) zc_55 rfl rfl (nb rfl) (nb rfl)) rfl rfl pre0 rfl rfl (c':=2) rfl ?_
  refine sw (3) ty_55 ?_
  refine snl h2 ?_
  refine hw_seq (fun Nh3 h3=>?_)
  refine srg fun N h4=>?_
  refine sm ?_
  refine s0 (hop_len_sl (T:=22) rfl (elOf_spec el_22).1 rfl) ?_
  refine s0 (hop_eql rfl rfl) ?_
  refine snl h4 ?_
  refine wc (fun hc0=>?_) (fun hc0=>?_)
  · have hr0 := hc0; (try simp only [hcs, Int.reduceToNat] at hc0)
    refine srg fun N h5=>?_
    refine sl ty_55 ?_
    refine sw (4) ty_55 ?_
    refine snl h5 ?_
    refine hw_ret ?_
    refine hq_then_ret ?_
    refine hq_ret1 rfl (rvl_cell rfl rfl ty_55 (fun h=>by first | rfl | cases h) rfl rfl) [] rfl pre0 ?_
    exact fz_ndR (.nil 0 1 _ (by decide) none) (.nil 0 1 _ (by decide) none) fz_zl fz_zl rfl
  have hr0:=hc0;(try simp only [hcs,Int.reduceToNat] at hc0)
  exfalso;exact absurd hc0 (by simp)
theorem refNet_h (l:List Mn) (hB:MnB l) (t:T) (hok:t.ok=true) (he:(T.flat 0 t).length≤100000) (hw:t.w≤256):HPure Tryz.prog 26 [ptsV (T.flat 0 t),mnsV l] (ndR (0+t.w) (lay (meansV l) t 0).on (links (fun _=>Bag.zero) (lay (meansV l) t 0).lk) (lay (meansV l) t 0).pc):=by
  have hat:AtP (T.flat 0 t) 0 (T.flat 0 t):=⟨[],[],by simp,rfl⟩
  have hsz:(T.flat 0 t).length=t.size:=T.flat_len 0 t
  have hps:=t.size_pos
  obtain ⟨e,hee⟩:∃ e,e=T.flat 0 t:=⟨_,rfl⟩
  have hP:=partT_h l hB e (by rw [hee];exact he) t 0 hok (by rw [hee];exact hat)
  rw [←hee] at he hsz ⊢
  refine hpure_of Tryz.func26 rfl (by kernel_rfl) _ _ _ rfl 28 rfl rfl (fun w F=>?_)
  refine srg fun N h1=>?_
  refine hm_1 4 (hop_alloc (id:=4) (sz:=5) zc_55 rfl rfl (nb rfl) (nb rfl)) rfl rfl pre0 rfl rfl (c':=1) rfl ?_
  refine snl h1 ?_
  refine srg fun N h2=>?_
  refine s0 (hop_build (hs:=[(4,1,_)]) st_55 rfl rfl ⟨rfl,rfl,rfl,rfl,rfl,trivial⟩) ?_
  refine hm_1 5 (hop_alloc (id:=9101) (sz:=5) zc_55 rfl rfl (by decide) (by decide)) rfl rfl pre0 rfl rfl (c':=2) rfl ?_
  refine sw (3) ty_55 ?_
  refine snl h2 ?_
  refine hw_seq (fun Nh3 h3=>?_)
  refine srg fun N h4=>?_
  refine sm ?_
  refine s0 (hop_len_sl (T:=22) rfl (elOf_spec el_22).1 rfl) ?_
  refine s0 (hop_eql rfl rfl) ?_
  refine snl h4 ?_
  refine wc (fun hc0=>?_) (fun hc0=>?_)
  · have hr0 := hc0; (try simp only [hcs, Int.reduceToNat] at hc0)
    exfalso;omega
  have hr0:=hc0;(try simp only [hcs,Int.reduceToNat] at hc0)
  refine hw_skip ?_
  refine h3 _ ?_
  refine hw_seq (fun Nh5 h5=>?_)
  refine (hsub_ownc 9101 0 9102 1 25 (lrF (onF [])) (nd2 (.os 9102 3 0 0) nilS) rfl rfl (by exact jn5 (.inl ⟨rfl,rfl⟩) (.inr rfl) (.inr rfl) (.inr rfl) (.inr rfl)) (by decide) (by decide) (c':=4) rfl).wp ?_;refine (hsub_ownc 9101 1 9103 1 25 (lrF (fun _=>Bag.zero)) (nd2 (.os 9102 3 0 0) (.os 9103 4 0 0)) rfl rfl (by exact jn5 (.inr rfl) (.inl ⟨rfl,rfl⟩) (.inr rfl) (.inr rfl) (.inr rfl)) (by decide) (by decide) (c':=5) rfl).wp ?_;refine (hsub_ob 9101 (ndO 1 (.os 9102 3 0 0) (.os 9103 4 0 0) Pc.nil) rfl (by exact osub_nd (.refl _) (.refl _) sb_zl sb_zl (.refl _))).wp ?_
  refine hw_region ?_
  refine sm ?_
  refine sm ?_
  refine s0 (hop_len_sl (T:=22) rfl (elOf_spec el_22).1 rfl) ?_
  refine s0 (HOp.val (v':=intV ((0+t.size - 1:Nat):Int)) (hop_subi rfl rfl rfl (by omega) (by omega)) (congrArg intV (by omega))) ?_
  refine sm ?_
  refine hf_callR 17 (xs:=[_,_,_,_]) (pre:=[(9101,_),(9102,_),(9103,_)]) (hP _ 1 3 4 0 [] (fun _=>Bag.zero) Pc.nil rfl (by omega) (fun _=>Bag.zero_ok) (fun _ _ _=>rfl)) ⟨rfl,⟨rfl,⟨rfl,⟨rfl,trivial⟩⟩⟩⟩ (preC rfl (preC rfl (preC rfl pre0))) rfl rfl (fun x1 c1 hyy=>?_)
  obtain ⟨y2,y3⟩:=x1
  (try dsimp only)
  refine hm_1 6 (hop_alloc (id:=6) (sz:=5) zc_55 rfl rfl (nb rfl) (nb rfl)) rfl rfl pre0 rfl rfl (c':=c1+1) rfl ?_
  refine sw (c1+2) ty_55 ?_
  refine snl h5 ?_
  refine srg fun N h6=>?_
  refine sf fd_55_2 ?_
  refine sl ty_25 ?_
  refine sf fd_55_2 ?_
  refine sx (c1+3) ty_25 ?_
  refine snl h6 ?_
  refine srg fun N h7=>?_
  refine sf fd_55_3 ?_
  refine sl ty_25 ?_
  refine sf fd_55_3 ?_
  refine sx (c1+4) ty_25 ?_
  refine snl h7 ?_
  refine srg fun N h8=>?_
  refine sf fd_55_4 ?_
  refine sl ty_4 ?_
  refine sf fd_55_4 ?_
  refine sx (c1+5) ty_4 ?_
  refine snl h8 ?_
  refine srg fun N h9=>?_
  refine sl ty_55 ?_
  refine sw (c1+6) ty_55 ?_
  refine snl h9 ?_
  refine hw_ret ?_
  refine hq_ret1 rfl (rvl_cell rfl rfl ty_55 (fun h=>by first | rfl | cases h) rfl rfl) [(9102,_),(9103,_)] rfl (preC rfl (preC rfl pre0)) ?_
  exact fz_ndR (fz_lrow (.head _) rfl (fun _ _=>rfl)) (fz_lrow (.tail _ (.head _)) rfl (fun _ _=>rfl)) (show Fz _ (iListV (lay (meansV l) t 0).pc.first.list) (iListV (lay (meansV l) t 0).pc.first.list) from Frz.fz) (show Fz _ (iListV (lay (meansV l) t 0).pc.ends.list) (iListV (lay (meansV l) t 0).pc.ends.list) from Frz.fz) rfl
end Go.Proofs.YtldjnmljnlhaaaaGreatDoor
