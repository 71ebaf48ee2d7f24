/-
  By, Through, Over, Past (printed by tools/gen_sh4.py).
-/
import Derived.Test.YtkcfhciffdnmmaaCloneM
import Derived.Test.YtkcfhciffdnmmaaSh0
import Derived.Test.YtkcfhciffdnmmaaSmV
import Derived.Test.YtkcfhciffdnmmaaHc
namespace Go.Proofs.Ytkcfhciffdnmmaa
set_option linter.unusedSimpArgs false
set_option linter.unusedVariables false
set_option maxRecDepth 100000
set_option maxHeartbeats 2000000
open Go.RowKit
theorem clont_h (l:List Tok) (hl:l.length≤1000000):HPure Try.prog 33 [toksV l] (toksV l):=by
 refine ⟨⟨_,_,Try.func33,rfl,by kernel_rfl⟩,fun w F vs hF hr hw=>?_⟩
 obtain ⟨v,rfl,hv⟩:=rep1 hr
 obtain ⟨A,c,rfl,hc,hm,hs⟩:=toks_of hv
 refine (Clone_tok A _ c _ l w rfl hs (Nat.le_refl _) (by omega)).mono fun en w' hg=>?_
 exact gives_pure hF tokF tokF_imm tok_one tok0 hg
theorem clonm_h (l:List Mks) (hl:l.length≤1000000):HPure Try.prog 50 [mkssV l] (mkssV l):=by
 refine ⟨⟨_,_,Try.func50,rfl,by kernel_rfl⟩,fun w F vs hF hr hw=>?_⟩
 obtain ⟨v,rfl,hv⟩:=rep1 hr
 obtain ⟨A,c,rfl,hc,hm,hs⟩:=mkss_of hv
 refine (Clone_mks A _ c _ l w rfl hs (Nat.le_refl _) (by omega)).mono fun en w' hg=>?_
 exact gives_pure hF mksF mksF_imm mks_one mks0 hg
theorem osub_st {g:Nat} {F:Nat→Nat→HV} {s:St} (h:∀ j,j < 10→Sb (F 0 j) (stF s j)):OSub ⟨g,1,10,26,0,F⟩ (stO g s):=OSub.of fun i j hi hj=>by
 obtain rfl:i=0:=by omega
 exact h j hj
theorem osub_sh0 {gs g:Nat} {b b':Bool} {F:Nat→Nat→HV} (h0:F 0 0=.bnd (.func 25) (.pt 9101 g 0 0)) (h1:F 0 1=boolV b) (hb:b=b'):OSub ⟨gs,1,2,99,0,F⟩ (shO gs g b'):=hb▸osub_sh h0 h1
theorem kV_len {tl:TF} {s:St}:(kV tl s).2.1.sl=s.sl∧(kV tl s).2.1.sets=s.sets:=by
 unfold kV kindV
 split
 ·exact ⟨rfl,rfl⟩
 ·split
  ·exact ⟨rfl,rfl⟩
  ·split <;> exact ⟨rfl,rfl⟩
theorem gone2_t {tl:TF} {s:St} (h:gone2 tl s):(((false||decide ((tl s.f 1).2≠0))||decide ((tl s.t (-1)).2≠0))||((tl s.f 1).1.ins&&(tl s.t (-1)).1.ins))=true:=by
 unfold gone2 at h;simpa using h
theorem gone2_f {tl:TF} {s:St} (h:¬ gone2 tl s):((false||decide ((tl s.f 1).2≠0))||decide ((tl s.t (-1)).2≠0))=false∧(false||((tl s.f 1).1.ins&&(tl s.t (-1)).1.ins))=false:=by
 unfold gone2 at h
 have h1:(tl s.f 1).2=0:=Classical.byContradiction fun e=>h (.inl (.inl e))
 have h2:(tl s.t (-1)).2=0:=Classical.byContradiction fun e=>h (.inl (.inr e))
 refine ⟨by simp [h1,h2],?_⟩
 cases e1:(tl s.f 1).1.ins <;> cases e2:(tl s.t (-1)).1.ins <;> first | rfl | exact absurd (.inr ⟨e1,e2⟩) h
theorem byN_h (g g2:Nat) (L:List (List Rg)) (hL:L.length≤100000) (hok:RtOk L []) (s:St) (l1:s.sl.length≤20000) (l2:s.sets.length≤20000):HFunD Try.prog 24 [stV s,.bnd (.func 25) (.pt 9101 g 0 0)] [(9101,rtO g (.os 9102 g2 0 L.length) (.imm (.map none))),(9102,mpsO g2 L)] (optV (byV (routeV L []) s)) [(9101,rtO g (.os 9102 g2 0 L.length) (.imm (.map none))),(9102,mpsO g2 L)]:=by
 intro c
 have htl:TlOk (routeV L []):=tlok_route hok
 refine hfun_of Try.func24 rfl kr _ _ _ _ rfl 79 rfl rfl (fun X ok hX=>?_)
 refine srg fun N h1=>?_
 refine hm_1 2 (hop_box (id:=9301) (sz:=10) rfl rfl rfl (by decide) (by decide)) rfl rfl pre0 rfl rfl (c':=c+1) rfl ?_
 refine hm_1 4 (hop_alloc (id:=4) (sz:=10) zc_26 rfl rfl omx omx) rfl rfl pre0 rfl rfl (c':=c+2) rfl ?_
 refine sa<|snl h1<|hw_seq fun Nh2 h2=>srg fun N h3=>sm ?_
 refine s0 (hop_eql_bn (fun f t b w=>by kernel_rfl) rfl rfl) ?_
 refine sm ?_
 first
 | refine hq_g 13 2 12 false _ (fun hb=>hol_load ty_26 rfl (by first | exact Nat.le_of_ble_eq_true rfl | (simp at hb;first | omega | (dsimp only;omega) | (simp <;> omega)) | omega | (dsimp only;omega)) (by first | exact Nat.le_of_ble_eq_true rfl | (simp at hb;first | omega | (dsimp only;omega) | (simp <;> omega)) | omega | (dsimp only;omega)) (fun h=>(by first | rfl | cases h))) rfl rfl rfl rfl (pre1 rfl) rfl rfl rfl ?_
 | refine hq_g2 13 2 12 _ _ false _ (fun hb=>hol_load ty_26 rfl (by first | exact Nat.le_of_ble_eq_true rfl | (simp at hb;first | omega | (dsimp only;omega) | (simp <;> omega)) | omega | (dsimp only;omega)) (by first | exact Nat.le_of_ble_eq_true rfl | (simp at hb;first | omega | (dsimp only;omega) | (simp <;> omega)) | omega | (dsimp only;omega)) (fun h=>(by first | rfl | cases h))) rfl rfl rfl rfl (pre1 rfl) rfl rfl rfl ?_
 | refine stg 12 (fun hb=>hop_load_fp ty_26 rfl (by first | exact Nat.le_of_ble_eq_true rfl | (simp at hb;first | omega | (dsimp only;omega) | (simp <;> omega)) | omega | (dsimp only;omega)) (fun h=>(by first | rfl | cases h))) rfl rfl rfl rfl rfl ?_
 | refine sth 12 (fun hb=>hop_load_fp ty_26 rfl (by first | exact Nat.le_of_ble_eq_true rfl | (simp at hb;first | omega | (dsimp only;omega) | (simp <;> omega)) | omega | (dsimp only;omega)) (fun h=>(by first | rfl | cases h))) rfl rfl rfl rfl rfl ?_
 first
 | refine stg 12 (fun hb=>hop_call0 (xs:=[_]) (shape_h s (by omega) (by omega)) ⟨rfl,trivial⟩ ⟨(Fz.eq rfl),trivial⟩) rfl rfl rfl rfl rfl ?_
 | refine sth 12 (fun hb=>hop_call0 (xs:=[_]) (shape_h s (by omega) (by omega)) ⟨rfl,trivial⟩ ⟨(Fz.eq rfl),trivial⟩) rfl rfl rfl rfl rfl ?_
 first
 | refine stg 12 (fun hb=>hop_not rfl) rfl rfl rfl rfl rfl ?_
 | refine sth 12 (fun hb=>hop_not rfl) rfl rfl rfl rfl rfl ?_
 first
 | refine hq_p 16 (hstep_and _ _ rfl rfl rfl) rfl rfl rfl ?_
 | refine hq_p 16 (hstep_or _ _ rfl rfl rfl) rfl rfl rfl ?_
 | refine hq_p 16 (hstep_ite _ _ _ rfl rfl rfl) rfl rfl rfl ?_
 | refine hq_p 16 (hstep_pick _ _ _ _ rfl rfl rfl (fun _=>.refl _) (fun _=>.refl _)) rfl rfl rfl ?_
 refine nu ?_
 refine h3 _ ?_
 refine wc (fun hc0=>?_) (fun hc0=>?_)
 ·have hr0:=hc0;(try simp only [hcs,Int.reduceToNat] at hc0)
  have hs:¬ s.shape=true:=(by simpa using hr0)
  refine srg fun N h4=>?_
  refine s0 (hop_build (hs:=[]) st_26 rfl rfl trivial) ?_
  first
  | refine hm_s1 (hol_storeW ty_26 rfl rfl rfl rfl) rfl rfl (pre1 rfl) (c':=c+3) rfl ?_
  | refine hm_s1 (hol_store ty_26 rfl rfl rfl rfl (by first | exact Nat.le_of_ble_eq_true rfl | omega | (dsimp only;omega) | (simp <;> omega)) (by first | exact Nat.le_of_ble_eq_true rfl | omega | (dsimp only;omega) | (simp <;> omega)) (by first | exact Nat.le_of_ble_eq_true rfl | omega | (dsimp only;omega) | (simp <;> omega))) rfl rfl (pre1 rfl) (c':=c+3) rfl ?_
  refine sa<|snl h4<|hw_ret<|hq_then_ret ?_
  refine hf_retR2 ok hX RetS.one rfl (rvl_cell rfl rfl ty_26 rqc rfl rfl) (rval_tmp rfl) [] rfl pre0 (()) (trivial) (by rfl) (by rfl) ((by rw [byV_shape hs];exact .fz _ _ (fz_t2 (fz_agg10 fzc fzc fzc fzc fzc fzc fzc fzc fzc fzc) (.imm _)))) ?_
  exact ⟨⟨_,rfl,(okz_rtN rfl rfl rfl rfl rfl)⟩,⟨⟨_,rfl,okz_mps⟩,trivial⟩⟩
 have hr0:=hc0;(try simp only [hcs,Int.reduceToNat] at hc0)
 have hs:s.shape=true:=(by simpa using hr0);obtain ⟨q1,q2,q3,q4,q5⟩:=shape_in hs;have hba:=htl s.f 1 om om;have hbb:=htl s.t (-1) om om
 refine hw_skip<|h2 _<|srg fun N h5=>sm ?_
 refine s0 (hop_build (hs:=[(0,1,_)]) st_99 rfl rfl ⟨rfl,rfl,rfl,rfl,rfl,trivial⟩) ?_
 refine hm_1 20 (hop_box (id:=9201) (sz:=2) rfl rfl rfl (by decide) (by decide)) rfl rfl pre0 rfl rfl (c':=c+3) rfl ?_
 refine sa<|snl h5<|hw_seq fun Nh6 h6=>?_
 refine (hsub_ob 9201 (shO _ g false) rfl (osub_sh0 (b:=false) rfl rfl rfl)).wp ?_
 refine hd_start ?_
 refine dm 1 ?_
 first
 | refine hd_q 22 (hop_fa fd_26_1 rfl) rfl rfl pre0 rfl rfl (k':=2) rfl ?_
 | refine hd_q 22 (hop_fa_fp fd_26_1 rfl (by first | exact Nat.le_of_ble_eq_true rfl | omega | (dsimp only;omega) | (simp <;> omega))) rfl rfl pre0 rfl rfl (k':=2) rfl ?_
 first
 | refine hd_q 23 (HOp.val (v':=intV s.f) (hol_load ty_3 rfl (by first | exact Nat.le_of_ble_eq_true rfl | omega | (dsimp only;omega) | (simp <;> omega)) (by first | exact Nat.le_of_ble_eq_true rfl | omega | (dsimp only;omega) | (simp <;> omega)) (fun h=>(by first | rfl | cases h))) (rfl)) rfl rfl (pre1 rfl) rfl rfl (k':=3) rfl ?_
 | refine hd_q 23 (HOp.val (v':=intV s.f) (hop_load_fp ty_3 rfl (by first | exact Nat.le_of_ble_eq_true rfl | omega | (dsimp only;omega) | (simp <;> omega)) (fun h=>(by first | rfl | cases h))) (rfl)) rfl rfl pre0 rfl rfl (k':=3) rfl ?_
 refine hd_m 24 (hop_funD (xs:=[_,_,_]) (pre:=[(9201,_),(9101,_),(9102,_)]) (atN_h _ false g g2 L hL hok s.f 1) ((clocks_cons (id':=9201) (List.mem_cons_self ..) rfl (fun id o h=>⟨_,List.mem_cons_of_mem _ (hget_mem h),rfl⟩))) ⟨rfl,⟨rfl,⟨rfl,trivial⟩⟩⟩) rfl rfl (preC rfl (preC rfl (preC rfl pre0))) rfl rfl (k':=4) rfl ?_
 refine dm 5 ?_
 first
 | refine hd_q 26 (hop_fa fd_26_2 rfl) rfl rfl pre0 rfl rfl (k':=6) rfl ?_
 | refine hd_q 26 (hop_fa_fp fd_26_2 rfl (by first | exact Nat.le_of_ble_eq_true rfl | omega | (dsimp only;omega) | (simp <;> omega))) rfl rfl pre0 rfl rfl (k':=6) rfl ?_
 first
 | refine hd_q 27 (HOp.val (v':=intV s.t) (hol_load ty_3 rfl (by first | exact Nat.le_of_ble_eq_true rfl | omega | (dsimp only;omega) | (simp <;> omega)) (by first | exact Nat.le_of_ble_eq_true rfl | omega | (dsimp only;omega) | (simp <;> omega)) (fun h=>(by first | rfl | cases h))) (rfl)) rfl rfl (pre1 rfl) rfl rfl (k':=7) rfl ?_
 | refine hd_q 27 (HOp.val (v':=intV s.t) (hop_load_fp ty_3 rfl (by first | exact Nat.le_of_ble_eq_true rfl | omega | (dsimp only;omega) | (simp <;> omega)) (fun h=>(by first | rfl | cases h))) (rfl)) rfl rfl pre0 rfl rfl (k':=7) rfl ?_
 refine hd_m 28 (hop_funD (xs:=[_,_,_]) (pre:=[(9201,_),(9101,_),(9102,_)]) (atN_h _ (false||decide (((routeV L []) s.f 1).2≠0)) g g2 L hL hok s.t (-1)) ((clocks_cons (id':=9201) (List.mem_cons_self ..) rfl (fun id o h=>⟨_,List.mem_cons_of_mem _ (hget_mem h),rfl⟩))) ⟨rfl,⟨rfl,⟨rfl,trivial⟩⟩⟩) rfl rfl (preC rfl (preC rfl (preC rfl pre0))) rfl rfl (k':=8) rfl ?_
 refine hd_1 7 (hop_alloc (id:=7) (sz:=5) zc_100 rfl rfl omx omx) rfl rfl pre0 rfl rfl (k':=9) rfl ?_
 refine hd_1 8 (hop_alloc (id:=8) (sz:=5) zc_100 rfl rfl omx omx) rfl rfl pre0 rfl rfl (k':=10) rfl ?_
 first
 | refine hd_s1 (hol_storeW ty_100 rfl rfl rfl rfl) rfl rfl (pre1 rfl) (k':=11) rfl ?_
 | refine hd_s1 (hol_store ty_100 rfl rfl rfl rfl (by first | exact Nat.le_of_ble_eq_true rfl | omega | (dsimp only;omega) | (simp <;> omega)) (by first | exact Nat.le_of_ble_eq_true rfl | omega | (dsimp only;omega) | (simp <;> omega)) (by first | exact Nat.le_of_ble_eq_true rfl | omega | (dsimp only;omega) | (simp <;> omega))) rfl rfl (pre1 rfl) (k':=11) rfl ?_
 first
 | refine hd_s1 (hol_storeW ty_100 rfl rfl rfl rfl) rfl rfl (pre1 rfl) (k':=12) rfl ?_
 | refine hd_s1 (hol_store ty_100 rfl rfl rfl rfl (by first | exact Nat.le_of_ble_eq_true rfl | omega | (dsimp only;omega) | (simp <;> omega)) (by first | exact Nat.le_of_ble_eq_true rfl | omega | (dsimp only;omega) | (simp <;> omega)) (by first | exact Nat.le_of_ble_eq_true rfl | omega | (dsimp only;omega) | (simp <;> omega))) rfl rfl (pre1 rfl) (k':=12) rfl ?_
 refine hd_nil kr kr (c':=c+15) rfl ?_
 refine h6 _<|srg fun N h7=>?_
 first
 | refine hq_ 29 (hol_load ty_26 rfl (by first | exact Nat.le_of_ble_eq_true rfl | omega | (dsimp only;omega) | (simp <;> omega)) (by first | exact Nat.le_of_ble_eq_true rfl | omega | (dsimp only;omega) | (simp <;> omega)) (fun h=>(by first | rfl | cases h))) rfl rfl (pre1 rfl) rfl rfl ?_
 | refine hq_ 29 (hop_load_fp ty_26 rfl (by first | exact Nat.le_of_ble_eq_true rfl | omega | (dsimp only;omega) | (simp <;> omega)) (fun h=>(by first | rfl | cases h))) rfl rfl pre0 rfl rfl ?_
 refine hm_1 9 (hop_alloc (id:=9302) (sz:=10) zc_26 rfl rfl (by decide) (by decide)) rfl rfl pre0 rfl rfl (c':=c+16) rfl ?_
 first
 | refine hm_s1 (hol_storeW ty_26 rfl rfl rfl rfl) rfl rfl (pre1 rfl) (c':=c+17) rfl ?_
 | refine hm_s1 (hol_store ty_26 rfl rfl rfl rfl (by first | exact Nat.le_of_ble_eq_true rfl | omega | (dsimp only;omega) | (simp <;> omega)) (by first | exact Nat.le_of_ble_eq_true rfl | omega | (dsimp only;omega) | (simp <;> omega)) (by first | exact Nat.le_of_ble_eq_true rfl | omega | (dsimp only;omega) | (simp <;> omega))) rfl rfl (pre1 rfl) (c':=c+17) rfl ?_
 refine snl h7<|hw_seq fun Nh8 h8=>hd_start ?_
 first
 | refine hd_q 30 (hop_fa fd_26_8 rfl) rfl rfl pre0 rfl rfl (k':=1) rfl ?_
 | refine hd_q 30 (hop_fa_fp fd_26_8 rfl (by first | exact Nat.le_of_ble_eq_true rfl | omega | (dsimp only;omega) | (simp <;> omega))) rfl rfl pre0 rfl rfl (k':=1) rfl ?_
 first
 | refine hd_q 31 (HOp.val (v':=toksV s.sl) (hol_load ty_22 rfl (by first | exact Nat.le_of_ble_eq_true rfl | omega | (dsimp only;omega) | (simp <;> omega)) (by first | exact Nat.le_of_ble_eq_true rfl | omega | (dsimp only;omega) | (simp <;> omega)) (fun h=>(by first | rfl | cases h))) (rfl)) rfl rfl (pre1 rfl) rfl rfl (k':=2) rfl ?_
 | refine hd_q 31 (HOp.val (v':=toksV s.sl) (hop_load_fp ty_22 rfl (by first | exact Nat.le_of_ble_eq_true rfl | omega | (dsimp only;omega) | (simp <;> omega)) (fun h=>(by first | rfl | cases h))) (rfl)) rfl rfl pre0 rfl rfl (k':=2) rfl ?_
 refine d0 3 (hop_call0 (xs:=[_]) (clont_h s.sl om) ⟨rfl,trivial⟩ ⟨fe,trivial⟩) ?_
 first
 | refine hd_q 33 (hop_fa fd_26_9 rfl) rfl rfl pre0 rfl rfl (k':=4) rfl ?_
 | refine hd_q 33 (hop_fa_fp fd_26_9 rfl (by first | exact Nat.le_of_ble_eq_true rfl | omega | (dsimp only;omega) | (simp <;> omega))) rfl rfl pre0 rfl rfl (k':=4) rfl ?_
 first
 | refine hd_q 34 (HOp.val (v':=mkssV s.sets) (hol_load ty_24 rfl (by first | exact Nat.le_of_ble_eq_true rfl | omega | (dsimp only;omega) | (simp <;> omega)) (by first | exact Nat.le_of_ble_eq_true rfl | omega | (dsimp only;omega) | (simp <;> omega)) (fun h=>(by first | rfl | cases h))) (rfl)) rfl rfl (pre1 rfl) rfl rfl (k':=5) rfl ?_
 | refine hd_q 34 (HOp.val (v':=mkssV s.sets) (hop_load_fp ty_24 rfl (by first | exact Nat.le_of_ble_eq_true rfl | omega | (dsimp only;omega) | (simp <;> omega)) (fun h=>(by first | rfl | cases h))) (rfl)) rfl rfl pre0 rfl rfl (k':=5) rfl ?_
 refine d0 6 (hop_call0 (xs:=[_]) (clonm_h s.sets om) ⟨rfl,trivial⟩ ⟨fe,trivial⟩) ?_
 first
 | refine hd_q 36 (hop_fa fd_26_8 rfl) rfl rfl pre0 rfl rfl (k':=7) rfl ?_
 | refine hd_q 36 (hop_fa_fp fd_26_8 rfl (by first | exact Nat.le_of_ble_eq_true rfl | omega | (dsimp only;omega) | (simp <;> omega))) rfl rfl pre0 rfl rfl (k':=7) rfl ?_
 first
 | refine hd_s1 (hol_storeW ty_22 rfl rfl rfl rfl) rfl rfl (pre1 rfl) (k':=8) rfl ?_
 | refine hd_s1 (hol_store ty_22 rfl rfl rfl rfl (by first | exact Nat.le_of_ble_eq_true rfl | omega | (dsimp only;omega) | (simp <;> omega)) (by first | exact Nat.le_of_ble_eq_true rfl | omega | (dsimp only;omega) | (simp <;> omega)) (by first | exact Nat.le_of_ble_eq_true rfl | omega | (dsimp only;omega) | (simp <;> omega))) rfl rfl (pre1 rfl) (k':=8) rfl ?_
 first
 | refine hd_q 37 (hop_fa fd_26_9 rfl) rfl rfl pre0 rfl rfl (k':=9) rfl ?_
 | refine hd_q 37 (hop_fa_fp fd_26_9 rfl (by first | exact Nat.le_of_ble_eq_true rfl | omega | (dsimp only;omega) | (simp <;> omega))) rfl rfl pre0 rfl rfl (k':=9) rfl ?_
 first
 | refine hd_s1 (hol_storeW ty_24 rfl rfl rfl rfl) rfl rfl (pre1 rfl) (k':=10) rfl ?_
 | refine hd_s1 (hol_store ty_24 rfl rfl rfl rfl (by first | exact Nat.le_of_ble_eq_true rfl | omega | (dsimp only;omega) | (simp <;> omega)) (by first | exact Nat.le_of_ble_eq_true rfl | omega | (dsimp only;omega) | (simp <;> omega)) (by first | exact Nat.le_of_ble_eq_true rfl | omega | (dsimp only;omega) | (simp <;> omega))) rfl rfl (pre1 rfl) (k':=10) rfl ?_
 refine hd_nil kr kr (c':=c+27) rfl ?_
 refine h8 _<|hw_seq fun Nh9 h9=>hd_start ?_
 first
 | refine hd_q 38 (hop_fa fd_100_0 rfl) rfl rfl pre0 rfl rfl (k':=1) rfl ?_
 | refine hd_q 38 (hop_fa_fp fd_100_0 rfl (by first | exact Nat.le_of_ble_eq_true rfl | omega | (dsimp only;omega) | (simp <;> omega))) rfl rfl pre0 rfl rfl (k':=1) rfl ?_
 first
 | refine hd_q 39 (HOp.val (v':=intV ((routeV L []) s.f 1).1.pos) (hol_load ty_3 rfl (by first | exact Nat.le_of_ble_eq_true rfl | omega | (dsimp only;omega) | (simp <;> omega)) (by first | exact Nat.le_of_ble_eq_true rfl | omega | (dsimp only;omega) | (simp <;> omega)) (fun h=>(by first | rfl | cases h))) (rfl)) rfl rfl (pre1 rfl) rfl rfl (k':=2) rfl ?_
 | refine hd_q 39 (HOp.val (v':=intV ((routeV L []) s.f 1).1.pos) (hop_load_fp ty_3 rfl (by first | exact Nat.le_of_ble_eq_true rfl | omega | (dsimp only;omega) | (simp <;> omega)) (fun h=>(by first | rfl | cases h))) (rfl)) rfl rfl pre0 rfl rfl (k':=2) rfl ?_
 first
 | refine hd_q 40 (hop_fa fd_100_0 rfl) rfl rfl pre0 rfl rfl (k':=3) rfl ?_
 | refine hd_q 40 (hop_fa_fp fd_100_0 rfl (by first | exact Nat.le_of_ble_eq_true rfl | omega | (dsimp only;omega) | (simp <;> omega))) rfl rfl pre0 rfl rfl (k':=3) rfl ?_
 first
 | refine hd_q 41 (HOp.val (v':=intV ((routeV L []) s.f 1).1.pos) (hol_load ty_3 rfl (by first | exact Nat.le_of_ble_eq_true rfl | omega | (dsimp only;omega) | (simp <;> omega)) (by first | exact Nat.le_of_ble_eq_true rfl | omega | (dsimp only;omega) | (simp <;> omega)) (fun h=>(by first | rfl | cases h))) (rfl)) rfl rfl (pre1 rfl) rfl rfl (k':=4) rfl ?_
 | refine hd_q 41 (HOp.val (v':=intV ((routeV L []) s.f 1).1.pos) (hop_load_fp ty_3 rfl (by first | exact Nat.le_of_ble_eq_true rfl | omega | (dsimp only;omega) | (simp <;> omega)) (fun h=>(by first | rfl | cases h))) (rfl)) rfl rfl pre0 rfl rfl (k':=4) rfl ?_
 first
 | refine hd_q 42 (hop_fa fd_100_0 rfl) rfl rfl pre0 rfl rfl (k':=5) rfl ?_
 | refine hd_q 42 (hop_fa_fp fd_100_0 rfl (by first | exact Nat.le_of_ble_eq_true rfl | omega | (dsimp only;omega) | (simp <;> omega))) rfl rfl pre0 rfl rfl (k':=5) rfl ?_
 first
 | refine hd_q 43 (HOp.val (v':=intV ((routeV L []) s.t (-1)).1.pos) (hol_load ty_3 rfl (by first | exact Nat.le_of_ble_eq_true rfl | omega | (dsimp only;omega) | (simp <;> omega)) (by first | exact Nat.le_of_ble_eq_true rfl | omega | (dsimp only;omega) | (simp <;> omega)) (fun h=>(by first | rfl | cases h))) (rfl)) rfl rfl (pre1 rfl) rfl rfl (k':=6) rfl ?_
 | refine hd_q 43 (HOp.val (v':=intV ((routeV L []) s.t (-1)).1.pos) (hop_load_fp ty_3 rfl (by first | exact Nat.le_of_ble_eq_true rfl | omega | (dsimp only;omega) | (simp <;> omega)) (fun h=>(by first | rfl | cases h))) (rfl)) rfl rfl pre0 rfl rfl (k':=6) rfl ?_
 refine d0 7 (hop_max rfl rfl) ?_
 first
 | refine hd_q 45 (hop_fa fd_26_1 rfl) rfl rfl pre0 rfl rfl (k':=8) rfl ?_
 | refine hd_q 45 (hop_fa_fp fd_26_1 rfl (by first | exact Nat.le_of_ble_eq_true rfl | omega | (dsimp only;omega) | (simp <;> omega))) rfl rfl pre0 rfl rfl (k':=8) rfl ?_
 first
 | refine hd_s1 (hol_storeW ty_3 rfl rfl rfl rfl) rfl rfl (pre1 rfl) (k':=9) rfl ?_
 | refine hd_s1 (hol_store ty_3 rfl rfl rfl rfl (by first | exact Nat.le_of_ble_eq_true rfl | omega | (dsimp only;omega) | (simp <;> omega)) (by first | exact Nat.le_of_ble_eq_true rfl | omega | (dsimp only;omega) | (simp <;> omega)) (by first | exact Nat.le_of_ble_eq_true rfl | omega | (dsimp only;omega) | (simp <;> omega))) rfl rfl (pre1 rfl) (k':=9) rfl ?_
 first
 | refine hd_q 46 (hop_fa fd_26_2 rfl) rfl rfl pre0 rfl rfl (k':=10) rfl ?_
 | refine hd_q 46 (hop_fa_fp fd_26_2 rfl (by first | exact Nat.le_of_ble_eq_true rfl | omega | (dsimp only;omega) | (simp <;> omega))) rfl rfl pre0 rfl rfl (k':=10) rfl ?_
 first
 | refine hd_s1 (hol_storeW ty_3 rfl rfl rfl rfl) rfl rfl (pre1 rfl) (k':=11) rfl ?_
 | refine hd_s1 (hol_store ty_3 rfl rfl rfl rfl (by first | exact Nat.le_of_ble_eq_true rfl | omega | (dsimp only;omega) | (simp <;> omega)) (by first | exact Nat.le_of_ble_eq_true rfl | omega | (dsimp only;omega) | (simp <;> omega)) (by first | exact Nat.le_of_ble_eq_true rfl | omega | (dsimp only;omega) | (simp <;> omega))) rfl rfl (pre1 rfl) (k':=11) rfl ?_
 refine hd_nil kr kr (c':=c+38) rfl ?_
 refine h9 _<|hw_seq fun Nh10 h10=>hw_seq fun Nh11 h11=>?_
 by_cases hg:gone2 (routeV L []) s
 ·skip
  refine hw_region<|sm ?_
  first
  | refine hq_ 48 (hop_nilcheck_pt rfl) rfl rfl pre0 rfl rfl ?_
  | refine hq_ 48 (hop_nilcheck_fp rfl) rfl rfl pre0 rfl rfl ?_
  first
  | refine hq_ 49 (hop_fa fd_99_1 rfl) rfl rfl pre0 rfl rfl ?_
  | refine hq_ 49 (hop_fa_fp fd_99_1 rfl (by first | exact Nat.le_of_ble_eq_true rfl | omega | (dsimp only;omega) | (simp <;> omega))) rfl rfl pre0 rfl rfl ?_
  first
  | refine hq_ 50 (HOp.val (v':=boolV ((false||decide (((routeV L []) s.f 1).2≠0))||decide (((routeV L []) s.t (-1)).2≠0))) (hol_load ty_4 rfl (by first | exact Nat.le_of_ble_eq_true rfl | omega | (dsimp only;omega) | (simp <;> omega)) (by first | exact Nat.le_of_ble_eq_true rfl | omega | (dsimp only;omega) | (simp <;> omega)) (fun h=>(by first | rfl | cases h))) (rfl)) rfl rfl (pre1 rfl) rfl rfl ?_
  | refine hq_ 50 (HOp.val (v':=boolV ((false||decide (((routeV L []) s.f 1).2≠0))||decide (((routeV L []) s.t (-1)).2≠0))) (hop_load_fp ty_4 rfl (by first | exact Nat.le_of_ble_eq_true rfl | omega | (dsimp only;omega) | (simp <;> omega)) (fun h=>(by first | rfl | cases h))) (rfl)) rfl rfl pre0 rfl rfl ?_
  refine sm ?_
  first
  | refine stg 51 (fun hb=>hop_fa fd_100_2 rfl) rfl rfl rfl rfl rfl ?_
  | refine sth 51 (fun hb=>hop_fa fd_100_2 rfl) rfl rfl rfl rfl rfl ?_
  | refine stg 51 (fun hb=>hop_fa_fp fd_100_2 rfl (by first | exact Nat.le_of_ble_eq_true rfl | (simp at hb;first | omega | (dsimp only;omega) | (simp <;> omega)) | omega | (dsimp only;omega))) rfl rfl rfl rfl rfl ?_
  | refine sth 51 (fun hb=>hop_fa_fp fd_100_2 rfl (by first | exact Nat.le_of_ble_eq_true rfl | (simp at hb;first | omega | (dsimp only;omega) | (simp <;> omega)) | omega | (dsimp only;omega))) rfl rfl rfl rfl rfl ?_
  first
  | refine hq_g 53 4 51 false _ (fun hb=>HOp.val (v':=boolV ((routeV L []) s.f 1).1.ins) (hol_load ty_4 rfl (by first | exact Nat.le_of_ble_eq_true rfl | (simp at hb;first | omega | (dsimp only;omega) | (simp <;> omega)) | omega | (dsimp only;omega)) (by first | exact Nat.le_of_ble_eq_true rfl | (simp at hb;first | omega | (dsimp only;omega) | (simp <;> omega)) | omega | (dsimp only;omega)) (fun h=>(by first | rfl | cases h))) (rfl)) rfl rfl rfl rfl (pre1 rfl) rfl rfl rfl ?_
  | refine hq_g2 53 4 51 _ _ false _ (fun hb=>HOp.val (v':=boolV ((routeV L []) s.f 1).1.ins) (hol_load ty_4 rfl (by first | exact Nat.le_of_ble_eq_true rfl | (simp at hb;first | omega | (dsimp only;omega) | (simp <;> omega)) | omega | (dsimp only;omega)) (by first | exact Nat.le_of_ble_eq_true rfl | (simp at hb;first | omega | (dsimp only;omega) | (simp <;> omega)) | omega | (dsimp only;omega)) (fun h=>(by first | rfl | cases h))) (rfl)) rfl rfl rfl rfl (pre1 rfl) rfl rfl rfl ?_
  | refine stg 51 (fun hb=>HOp.val (v':=boolV ((routeV L []) s.f 1).1.ins) (hop_load_fp ty_4 rfl (by first | exact Nat.le_of_ble_eq_true rfl | (simp at hb;first | omega | (dsimp only;omega) | (simp <;> omega)) | omega | (dsimp only;omega)) (fun h=>(by first | rfl | cases h))) (rfl)) rfl rfl rfl rfl rfl ?_
  | refine sth 51 (fun hb=>HOp.val (v':=boolV ((routeV L []) s.f 1).1.ins) (hop_load_fp ty_4 rfl (by first | exact Nat.le_of_ble_eq_true rfl | (simp at hb;first | omega | (dsimp only;omega) | (simp <;> omega)) | omega | (dsimp only;omega)) (fun h=>(by first | rfl | cases h))) (rfl)) rfl rfl rfl rfl rfl ?_
  first
  | refine stg 51 (fun hb=>hop_move rfl) rfl rfl rfl rfl rfl ?_
  | refine sth 51 (fun hb=>hop_move rfl) rfl rfl rfl rfl rfl ?_
  first
  | refine stg 54 (fun hb=>hop_fa fd_100_2 rfl) rfl rfl rfl rfl rfl ?_
  | refine hq_g3 55 7 54 51 false true _ _ (fun hb hb2=>hop_fa fd_100_2 rfl) rfl rfl rfl rfl rfl pre0 rfl rfl rfl ?_
  | refine sth 54 (fun hb=>hop_fa fd_100_2 rfl) rfl rfl rfl rfl rfl ?_
  | refine stg 54 (fun hb=>hop_fa_fp fd_100_2 rfl (by first | exact Nat.le_of_ble_eq_true rfl | (simp at hb;first | omega | (dsimp only;omega) | (simp <;> omega)) | omega | (dsimp only;omega))) rfl rfl rfl rfl rfl ?_
  | refine hq_g3 55 7 54 51 false true _ _ (fun hb hb2=>hop_fa_fp fd_100_2 rfl (by first | exact Nat.le_of_ble_eq_true rfl | (simp at hb;omega) | (simp at hb2;omega) | (simp at hb hb2;first | omega | (dsimp only;omega) | (simp <;> omega)) | omega | (dsimp only;omega))) rfl rfl rfl rfl rfl pre0 rfl rfl rfl ?_
  | refine sth 54 (fun hb=>hop_fa_fp fd_100_2 rfl (by first | exact Nat.le_of_ble_eq_true rfl | (simp at hb;first | omega | (dsimp only;omega) | (simp <;> omega)) | omega | (dsimp only;omega))) rfl rfl rfl rfl rfl ?_
  first
  | refine hq_g 56 7 54 true _ (fun hb=>HOp.val (v':=boolV ((routeV L []) s.t (-1)).1.ins) (hol_load ty_4 rfl (by first | exact Nat.le_of_ble_eq_true rfl | (simp at hb;first | omega | (dsimp only;omega) | (simp <;> omega)) | omega | (dsimp only;omega)) (by first | exact Nat.le_of_ble_eq_true rfl | (simp at hb;first | omega | (dsimp only;omega) | (simp <;> omega)) | omega | (dsimp only;omega)) (fun h=>(by first | rfl | cases h))) (rfl)) rfl rfl rfl rfl (pre1 rfl) rfl rfl rfl ?_
  | refine hq_g3 56 7 54 51 false true _ _ (fun hb hb2=>HOp.val (v':=boolV ((routeV L []) s.t (-1)).1.ins) (hol_load ty_4 rfl (by first | exact Nat.le_of_ble_eq_true rfl | (simp at hb;omega) | (simp at hb2;omega) | (simp at hb hb2;first | omega | (dsimp only;omega) | (simp <;> omega)) | omega | (dsimp only;omega)) (by first | exact Nat.le_of_ble_eq_true rfl | (simp at hb;omega) | (simp at hb2;omega) | (simp at hb hb2;first | omega | (dsimp only;omega) | (simp <;> omega)) | omega | (dsimp only;omega)) (fun h=>(by first | rfl | cases h))) (rfl)) rfl rfl rfl rfl rfl (pre1 rfl) rfl rfl rfl ?_
  | refine hq_g2 56 7 54 _ _ true _ (fun hb=>HOp.val (v':=boolV ((routeV L []) s.t (-1)).1.ins) (hol_load ty_4 rfl (by first | exact Nat.le_of_ble_eq_true rfl | (simp at hb;first | omega | (dsimp only;omega) | (simp <;> omega)) | omega | (dsimp only;omega)) (by first | exact Nat.le_of_ble_eq_true rfl | (simp at hb;first | omega | (dsimp only;omega) | (simp <;> omega)) | omega | (dsimp only;omega)) (fun h=>(by first | rfl | cases h))) (rfl)) rfl rfl rfl rfl (pre1 rfl) rfl rfl rfl ?_
  | refine stg 54 (fun hb=>HOp.val (v':=boolV ((routeV L []) s.t (-1)).1.ins) (hop_load_fp ty_4 rfl (by first | exact Nat.le_of_ble_eq_true rfl | (simp at hb;first | omega | (dsimp only;omega) | (simp <;> omega)) | omega | (dsimp only;omega)) (fun h=>(by first | rfl | cases h))) (rfl)) rfl rfl rfl rfl rfl ?_
  | refine hq_g3 56 7 54 51 false true _ _ (fun hb hb2=>HOp.val (v':=boolV ((routeV L []) s.t (-1)).1.ins) (hop_load_fp ty_4 rfl (by first | exact Nat.le_of_ble_eq_true rfl | (simp at hb;omega) | (simp at hb2;omega) | (simp at hb hb2;first | omega | (dsimp only;omega) | (simp <;> omega)) | omega | (dsimp only;omega)) (fun h=>(by first | rfl | cases h))) (rfl)) rfl rfl rfl rfl rfl pre0 rfl rfl rfl ?_
  | refine sth 54 (fun hb=>HOp.val (v':=boolV ((routeV L []) s.t (-1)).1.ins) (hop_load_fp ty_4 rfl (by first | exact Nat.le_of_ble_eq_true rfl | (simp at hb;first | omega | (dsimp only;omega) | (simp <;> omega)) | omega | (dsimp only;omega)) (fun h=>(by first | rfl | cases h))) (rfl)) rfl rfl rfl rfl rfl ?_
  first
  | refine hq_pg 57 (hstep_andg (gi:=4) (j:=51) _ _ rfl rfl rfl rfl) rfl rfl rfl rfl ?_
  | refine hq_pg 57 (hstep_org (gi:=4) (j:=51) _ _ rfl rfl rfl rfl) rfl rfl rfl rfl ?_
  | refine hq_pg 57 (hstep_pickg (gi:=4) (j:=51) _ _ _ _ rfl rfl rfl rfl (fun _=>.refl _) (fun _=>.refl _)) rfl rfl rfl rfl ?_
  first
  | refine hq_p 58 (hstep_and _ _ rfl rfl rfl) rfl rfl rfl ?_
  | refine hq_p 58 (hstep_or _ _ rfl rfl rfl) rfl rfl rfl ?_
  | refine hq_p 58 (hstep_ite _ _ _ rfl rfl rfl) rfl rfl rfl ?_
  | refine hq_p 58 (hstep_pick _ _ _ _ rfl rfl rfl (fun _=>.refl _) (fun _=>.refl _)) rfl rfl rfl ?_
  refine s0 (HOp.val (v':=boolV true) (hop_move rfl) (congrArg (fun b=>boolV b) (gone2_t hg))) ?_
  refine hq_g 60 12 59 false true (v:=.imm undef) (fun h=>absurd h (by decide)) rfl rfl rfl rfl pre0 rfl rfl rfl ?_
  refine hq_g 61 12 59 false true (v:=.imm undef) (fun h=>absurd h (by decide)) rfl rfl rfl rfl pre0 rfl rfl rfl ?_
  refine hq_g 62 12 59 false true (v:=.imm undef) (fun h=>absurd h (by decide)) rfl rfl rfl rfl pre0 rfl rfl rfl ?_
  refine hq_g 63 12 59 false true (v:=.imm undef) (fun h=>absurd h (by decide)) rfl rfl rfl rfl pre0 rfl rfl rfl ?_
  refine hq_g 64 12 59 false true (v:=.imm undef) (fun h=>absurd h (by decide)) rfl rfl rfl rfl pre0 rfl rfl rfl ?_
  refine s0 (hop_pick_t rfl rfl) ?_
  refine sm ?_
  refine hq_g 67 19 66 false true (v:=.imm undef) (fun h=>absurd h (by decide)) rfl rfl rfl rfl pre0 rfl rfl rfl ?_
  refine hq_g 68 19 66 false true (v:=.imm undef) (fun h=>absurd h (by decide)) rfl rfl rfl rfl pre0 rfl rfl rfl ?_
  refine hq_g 69 19 66 false true (v:=.imm undef) (fun h=>absurd h (by decide)) rfl rfl rfl rfl pre0 rfl rfl rfl ?_
  refine hq_g 70 19 66 false true (v:=.imm undef) (fun h=>absurd h (by decide)) rfl rfl rfl rfl pre0 rfl rfl rfl ?_
  refine s0 (hop_pick_t rfl rfl) ?_
  refine sm ?_
  refine hq_g 73 25 72 false true (v:=.imm undef) (fun h=>absurd h (by decide)) rfl rfl rfl rfl pre0 rfl rfl rfl ?_
  refine hq_g 74 25 72 false true (v:=.imm undef) (fun h=>absurd h (by decide)) rfl rfl rfl rfl pre0 rfl rfl rfl ?_
  refine hq_g 75 25 72 false true (v:=.imm undef) (fun h=>absurd h (by decide)) rfl rfl rfl rfl pre0 rfl rfl rfl ?_
  refine s0 (hop_pick_t rfl rfl) ?_
  refine nu ?_
  refine h11 _ ?_
  refine wc (fun hc1=>?_) (fun hc1=>?_)
  ·have hr1:=hc1;(try simp only [hcs,Int.reduceToNat] at hc1)
   refine srg fun N h12=>?_
   refine s0 (hop_build (hs:=[]) st_26 rfl rfl trivial) ?_
   first
   | refine hm_s1 (hol_storeW ty_26 rfl rfl rfl rfl) rfl rfl (pre1 rfl) (c':=c+39) rfl ?_
   | refine hm_s1 (hol_store ty_26 rfl rfl rfl rfl (by first | exact Nat.le_of_ble_eq_true rfl | omega | (dsimp only;omega) | (simp <;> omega)) (by first | exact Nat.le_of_ble_eq_true rfl | omega | (dsimp only;omega) | (simp <;> omega)) (by first | exact Nat.le_of_ble_eq_true rfl | omega | (dsimp only;omega) | (simp <;> omega))) rfl rfl (pre1 rfl) (c':=c+39) rfl ?_
   refine sa<|snl h12<|hw_ret<|hq_then_ret ?_
   refine hf_retR2 ok hX RetS.one rfl (rvl_cell rfl rfl ty_26 rqc rfl rfl) (rval_tmp rfl) [] rfl pre0 (()) (trivial) (by rfl) (by rfl) ((by rw [byV_gone hg];exact .fz _ _ (fz_t2 (fz_agg10 fzc fzc fzc fzc fzc fzc fzc fzc fzc fzc) (.imm _)))) ?_
   exact ⟨⟨_,rfl,(okz_rtN rfl rfl rfl rfl rfl)⟩,⟨⟨_,rfl,okz_mps⟩,trivial⟩⟩
  have hr1:=hc1;(try simp only [hcs,Int.reduceToNat] at hc1)
  exfalso;simp at hr1
 ·skip
  refine (hsub_ob 9302 (stO _ (outV (routeV L []) s)) rfl (osub_st (fun j hj=>(sb10 (by exact .refl _) (by exact .refl _) (by exact .refl _) (by exact .refl _) (by exact .refl _) (by exact .refl _) (by exact .refl _) (by exact .refl _) (by exact .refl _) (by exact .refl _)) j hj))).wp ?_;refine (hsub_ob 9201 (shO _ g false) rfl (osub_sh0 rfl rfl (gone2_f hg).1)).wp ?_
  refine hw_region<|sm ?_
  first
  | refine hq_ 48 (hop_nilcheck_pt rfl) rfl rfl pre0 rfl rfl ?_
  | refine hq_ 48 (hop_nilcheck_fp rfl) rfl rfl pre0 rfl rfl ?_
  first
  | refine hq_ 49 (hop_fa fd_99_1 rfl) rfl rfl pre0 rfl rfl ?_
  | refine hq_ 49 (hop_fa_fp fd_99_1 rfl (by first | exact Nat.le_of_ble_eq_true rfl | omega | (dsimp only;omega) | (simp <;> omega))) rfl rfl pre0 rfl rfl ?_
  first
  | refine hq_ 50 (HOp.val (v':=boolV false) (hol_load ty_4 rfl (by first | exact Nat.le_of_ble_eq_true rfl | omega | (dsimp only;omega) | (simp <;> omega)) (by first | exact Nat.le_of_ble_eq_true rfl | omega | (dsimp only;omega) | (simp <;> omega)) (fun h=>(by first | rfl | cases h))) (rfl)) rfl rfl (pre1 rfl) rfl rfl ?_
  | refine hq_ 50 (HOp.val (v':=boolV false) (hop_load_fp ty_4 rfl (by first | exact Nat.le_of_ble_eq_true rfl | omega | (dsimp only;omega) | (simp <;> omega)) (fun h=>(by first | rfl | cases h))) (rfl)) rfl rfl pre0 rfl rfl ?_
  refine sm ?_
  first
  | refine stg 51 (fun hb=>hop_fa fd_100_2 rfl) rfl rfl rfl rfl rfl ?_
  | refine sth 51 (fun hb=>hop_fa fd_100_2 rfl) rfl rfl rfl rfl rfl ?_
  | refine stg 51 (fun hb=>hop_fa_fp fd_100_2 rfl (by first | exact Nat.le_of_ble_eq_true rfl | (simp at hb;first | omega | (dsimp only;omega) | (simp <;> omega)) | omega | (dsimp only;omega))) rfl rfl rfl rfl rfl ?_
  | refine sth 51 (fun hb=>hop_fa_fp fd_100_2 rfl (by first | exact Nat.le_of_ble_eq_true rfl | (simp at hb;first | omega | (dsimp only;omega) | (simp <;> omega)) | omega | (dsimp only;omega))) rfl rfl rfl rfl rfl ?_
  first
  | refine hq_g 53 4 51 false _ (fun hb=>HOp.val (v':=boolV ((routeV L []) s.f 1).1.ins) (hol_load ty_4 rfl (by first | exact Nat.le_of_ble_eq_true rfl | (simp at hb;first | omega | (dsimp only;omega) | (simp <;> omega)) | omega | (dsimp only;omega)) (by first | exact Nat.le_of_ble_eq_true rfl | (simp at hb;first | omega | (dsimp only;omega) | (simp <;> omega)) | omega | (dsimp only;omega)) (fun h=>(by first | rfl | cases h))) (rfl)) rfl rfl rfl rfl (pre1 rfl) rfl rfl rfl ?_
  | refine hq_g2 53 4 51 _ _ false _ (fun hb=>HOp.val (v':=boolV ((routeV L []) s.f 1).1.ins) (hol_load ty_4 rfl (by first | exact Nat.le_of_ble_eq_true rfl | (simp at hb;first | omega | (dsimp only;omega) | (simp <;> omega)) | omega | (dsimp only;omega)) (by first | exact Nat.le_of_ble_eq_true rfl | (simp at hb;first | omega | (dsimp only;omega) | (simp <;> omega)) | omega | (dsimp only;omega)) (fun h=>(by first | rfl | cases h))) (rfl)) rfl rfl rfl rfl (pre1 rfl) rfl rfl rfl ?_
  | refine stg 51 (fun hb=>HOp.val (v':=boolV ((routeV L []) s.f 1).1.ins) (hop_load_fp ty_4 rfl (by first | exact Nat.le_of_ble_eq_true rfl | (simp at hb;first | omega | (dsimp only;omega) | (simp <;> omega)) | omega | (dsimp only;omega)) (fun h=>(by first | rfl | cases h))) (rfl)) rfl rfl rfl rfl rfl ?_
  | refine sth 51 (fun hb=>HOp.val (v':=boolV ((routeV L []) s.f 1).1.ins) (hop_load_fp ty_4 rfl (by first | exact Nat.le_of_ble_eq_true rfl | (simp at hb;first | omega | (dsimp only;omega) | (simp <;> omega)) | omega | (dsimp only;omega)) (fun h=>(by first | rfl | cases h))) (rfl)) rfl rfl rfl rfl rfl ?_
  first
  | refine stg 51 (fun hb=>hop_move rfl) rfl rfl rfl rfl rfl ?_
  | refine sth 51 (fun hb=>hop_move rfl) rfl rfl rfl rfl rfl ?_
  first
  | refine stg 54 (fun hb=>hop_fa fd_100_2 rfl) rfl rfl rfl rfl rfl ?_
  | refine hq_g3 55 7 54 51 false true _ _ (fun hb hb2=>hop_fa fd_100_2 rfl) rfl rfl rfl rfl rfl pre0 rfl rfl rfl ?_
  | refine sth 54 (fun hb=>hop_fa fd_100_2 rfl) rfl rfl rfl rfl rfl ?_
  | refine stg 54 (fun hb=>hop_fa_fp fd_100_2 rfl (by first | exact Nat.le_of_ble_eq_true rfl | (simp at hb;first | omega | (dsimp only;omega) | (simp <;> omega)) | omega | (dsimp only;omega))) rfl rfl rfl rfl rfl ?_
  | refine hq_g3 55 7 54 51 false true _ _ (fun hb hb2=>hop_fa_fp fd_100_2 rfl (by first | exact Nat.le_of_ble_eq_true rfl | (simp at hb;omega) | (simp at hb2;omega) | (simp at hb hb2;first | omega | (dsimp only;omega) | (simp <;> omega)) | omega | (dsimp only;omega))) rfl rfl rfl rfl rfl pre0 rfl rfl rfl ?_
  | refine sth 54 (fun hb=>hop_fa_fp fd_100_2 rfl (by first | exact Nat.le_of_ble_eq_true rfl | (simp at hb;first | omega | (dsimp only;omega) | (simp <;> omega)) | omega | (dsimp only;omega))) rfl rfl rfl rfl rfl ?_
  first
  | refine hq_g 56 7 54 true _ (fun hb=>HOp.val (v':=boolV ((routeV L []) s.t (-1)).1.ins) (hol_load ty_4 rfl (by first | exact Nat.le_of_ble_eq_true rfl | (simp at hb;first | omega | (dsimp only;omega) | (simp <;> omega)) | omega | (dsimp only;omega)) (by first | exact Nat.le_of_ble_eq_true rfl | (simp at hb;first | omega | (dsimp only;omega) | (simp <;> omega)) | omega | (dsimp only;omega)) (fun h=>(by first | rfl | cases h))) (rfl)) rfl rfl rfl rfl (pre1 rfl) rfl rfl rfl ?_
  | refine hq_g3 56 7 54 51 false true _ _ (fun hb hb2=>HOp.val (v':=boolV ((routeV L []) s.t (-1)).1.ins) (hol_load ty_4 rfl (by first | exact Nat.le_of_ble_eq_true rfl | (simp at hb;omega) | (simp at hb2;omega) | (simp at hb hb2;first | omega | (dsimp only;omega) | (simp <;> omega)) | omega | (dsimp only;omega)) (by first | exact Nat.le_of_ble_eq_true rfl | (simp at hb;omega) | (simp at hb2;omega) | (simp at hb hb2;first | omega | (dsimp only;omega) | (simp <;> omega)) | omega | (dsimp only;omega)) (fun h=>(by first | rfl | cases h))) (rfl)) rfl rfl rfl rfl rfl (pre1 rfl) rfl rfl rfl ?_
  | refine hq_g2 56 7 54 _ _ true _ (fun hb=>HOp.val (v':=boolV ((routeV L []) s.t (-1)).1.ins) (hol_load ty_4 rfl (by first | exact Nat.le_of_ble_eq_true rfl | (simp at hb;first | omega | (dsimp only;omega) | (simp <;> omega)) | omega | (dsimp only;omega)) (by first | exact Nat.le_of_ble_eq_true rfl | (simp at hb;first | omega | (dsimp only;omega) | (simp <;> omega)) | omega | (dsimp only;omega)) (fun h=>(by first | rfl | cases h))) (rfl)) rfl rfl rfl rfl (pre1 rfl) rfl rfl rfl ?_
  | refine stg 54 (fun hb=>HOp.val (v':=boolV ((routeV L []) s.t (-1)).1.ins) (hop_load_fp ty_4 rfl (by first | exact Nat.le_of_ble_eq_true rfl | (simp at hb;first | omega | (dsimp only;omega) | (simp <;> omega)) | omega | (dsimp only;omega)) (fun h=>(by first | rfl | cases h))) (rfl)) rfl rfl rfl rfl rfl ?_
  | refine hq_g3 56 7 54 51 false true _ _ (fun hb hb2=>HOp.val (v':=boolV ((routeV L []) s.t (-1)).1.ins) (hop_load_fp ty_4 rfl (by first | exact Nat.le_of_ble_eq_true rfl | (simp at hb;omega) | (simp at hb2;omega) | (simp at hb hb2;first | omega | (dsimp only;omega) | (simp <;> omega)) | omega | (dsimp only;omega)) (fun h=>(by first | rfl | cases h))) (rfl)) rfl rfl rfl rfl rfl pre0 rfl rfl rfl ?_
  | refine sth 54 (fun hb=>HOp.val (v':=boolV ((routeV L []) s.t (-1)).1.ins) (hop_load_fp ty_4 rfl (by first | exact Nat.le_of_ble_eq_true rfl | (simp at hb;first | omega | (dsimp only;omega) | (simp <;> omega)) | omega | (dsimp only;omega)) (fun h=>(by first | rfl | cases h))) (rfl)) rfl rfl rfl rfl rfl ?_
  first
  | refine hq_pg 57 (hstep_andg (gi:=4) (j:=51) _ _ rfl rfl rfl rfl) rfl rfl rfl rfl ?_
  | refine hq_pg 57 (hstep_org (gi:=4) (j:=51) _ _ rfl rfl rfl rfl) rfl rfl rfl rfl ?_
  | refine hq_pg 57 (hstep_pickg (gi:=4) (j:=51) _ _ _ _ rfl rfl rfl rfl (fun _=>.refl _) (fun _=>.refl _)) rfl rfl rfl rfl ?_
  first
  | refine hq_p 58 (hstep_and _ _ rfl rfl rfl) rfl rfl rfl ?_
  | refine hq_p 58 (hstep_or _ _ rfl rfl rfl) rfl rfl rfl ?_
  | refine hq_p 58 (hstep_ite _ _ _ rfl rfl rfl) rfl rfl rfl ?_
  | refine hq_p 58 (hstep_pick _ _ _ _ rfl rfl rfl (fun _=>.refl _) (fun _=>.refl _)) rfl rfl rfl ?_
  refine s0 (HOp.val (v':=boolV false) (hop_move rfl) (congrArg (fun b=>boolV b) (gone2_f hg).2)) ?_
  refine hq_k 60 59 false (hop_move rfl) rfl rfl rfl rfl pre0 rfl rfl ?_
  first
  | refine hq_k 61 59 false (hop_fa fd_100_0 rfl) rfl rfl rfl rfl pre0 rfl rfl ?_
  | refine hq_k 61 59 false (hop_fa_fp fd_100_0 rfl (by first | exact Nat.le_of_ble_eq_true rfl | (simp at hb;first | omega | (dsimp only;omega) | (simp <;> omega)) | omega | (dsimp only;omega))) rfl rfl rfl rfl pre0 rfl rfl ?_
  first
  | refine hq_k 62 59 false (HOp.val (v':=intV ((routeV L []) s.t (-1)).1.pos) (hol_load ty_3 rfl (by first | exact Nat.le_of_ble_eq_true rfl | (simp at hb;first | omega | (dsimp only;omega) | (simp <;> omega)) | omega | (dsimp only;omega)) (by first | exact Nat.le_of_ble_eq_true rfl | (simp at hb;first | omega | (dsimp only;omega) | (simp <;> omega)) | omega | (dsimp only;omega)) (fun h=>(by first | rfl | cases h))) (rfl)) rfl rfl rfl rfl (pre1 rfl) rfl rfl ?_
  | refine hq_k 62 59 false (HOp.val (v':=intV ((routeV L []) s.t (-1)).1.pos) (hop_load_fp ty_3 rfl (by first | exact Nat.le_of_ble_eq_true rfl | (simp at hb;first | omega | (dsimp only;omega) | (simp <;> omega)) | omega | (dsimp only;omega)) (fun h=>(by first | rfl | cases h))) (rfl)) rfl rfl rfl rfl pre0 rfl rfl ?_
  refine hm_k 63 59 false (hop_funD (xs:=[_,_,_,_]) (pre:=[(9201,_),(9301,_),(9302,_),(9101,_),(9102,_)]) (kindN_h _ false g g2 L hL hok _ _ s (outV (routeV L []) s) ((routeV L []) s.t (-1)).1.pos hs hba) ((clocks_cons (id':=9201) (List.mem_cons_self ..) rfl (clocks_cons (id':=9301) (List.mem_cons_of_mem _ (List.mem_cons_self ..)) rfl (clocks_cons (id':=9302) (List.mem_cons_of_mem _ (List.mem_cons_of_mem _ (List.mem_cons_self ..))) rfl (fun id o h=>⟨_,List.mem_cons_of_mem _ (List.mem_cons_of_mem _ (List.mem_cons_of_mem _ (hget_mem h))),rfl⟩))))) ⟨rfl,⟨rfl,⟨rfl,⟨rfl,trivial⟩⟩⟩⟩) rfl rfl rfl rfl (preC rfl (preC rfl (preC rfl (preC rfl (preC rfl pre0))))) rfl rfl (c':=c+39) rfl ?_
  refine hq_k 64 59 false (hop_not rfl) rfl rfl rfl rfl pre0 rfl rfl ?_
  refine s0 (hop_pick_f rfl rfl) ?_
  refine sm ?_
  first
  | refine stg 66 (fun hb=>hop_move rfl) rfl rfl rfl rfl rfl ?_
  | refine sth 66 (fun hb=>hop_move rfl) rfl rfl rfl rfl rfl ?_
  first
  | refine stg 66 (fun hb=>hop_nilcheck_pt rfl) rfl rfl rfl rfl rfl ?_
  | refine sth 66 (fun hb=>hop_nilcheck_pt rfl) rfl rfl rfl rfl rfl ?_
  | refine stg 66 (fun hb=>hop_nilcheck_fp rfl) rfl rfl rfl rfl rfl ?_
  | refine sth 66 (fun hb=>hop_nilcheck_fp rfl) rfl rfl rfl rfl rfl ?_
  first
  | refine stg 66 (fun hb=>hop_fa fd_99_1 rfl) rfl rfl rfl rfl rfl ?_
  | refine sth 66 (fun hb=>hop_fa fd_99_1 rfl) rfl rfl rfl rfl rfl ?_
  | refine stg 66 (fun hb=>hop_fa_fp fd_99_1 rfl (by first | exact Nat.le_of_ble_eq_true rfl | (simp at hb;first | omega | (dsimp only;omega) | (simp <;> omega)) | omega | (dsimp only;omega))) rfl rfl rfl rfl rfl ?_
  | refine sth 66 (fun hb=>hop_fa_fp fd_99_1 rfl (by first | exact Nat.le_of_ble_eq_true rfl | (simp at hb;first | omega | (dsimp only;omega) | (simp <;> omega)) | omega | (dsimp only;omega))) rfl rfl rfl rfl rfl ?_
  first
  | refine hq_g 70 19 66 false _ (fun hb=>HOp.val (v':=boolV (kV (routeV L []) s).2.2) (hol_load ty_4 rfl (by first | exact Nat.le_of_ble_eq_true rfl | (simp at hb;first | omega | (dsimp only;omega) | (simp <;> omega)) | omega | (dsimp only;omega)) (by first | exact Nat.le_of_ble_eq_true rfl | (simp at hb;first | omega | (dsimp only;omega) | (simp <;> omega)) | omega | (dsimp only;omega)) (fun h=>(by first | rfl | cases h))) (rfl)) rfl rfl rfl rfl (pre1 rfl) rfl rfl rfl ?_
  | refine hq_g2 70 19 66 _ _ false _ (fun hb=>HOp.val (v':=boolV (kV (routeV L []) s).2.2) (hol_load ty_4 rfl (by first | exact Nat.le_of_ble_eq_true rfl | (simp at hb;first | omega | (dsimp only;omega) | (simp <;> omega)) | omega | (dsimp only;omega)) (by first | exact Nat.le_of_ble_eq_true rfl | (simp at hb;first | omega | (dsimp only;omega) | (simp <;> omega)) | omega | (dsimp only;omega)) (fun h=>(by first | rfl | cases h))) (rfl)) rfl rfl rfl rfl (pre1 rfl) rfl rfl rfl ?_
  | refine stg 66 (fun hb=>HOp.val (v':=boolV (kV (routeV L []) s).2.2) (hop_load_fp ty_4 rfl (by first | exact Nat.le_of_ble_eq_true rfl | (simp at hb;first | omega | (dsimp only;omega) | (simp <;> omega)) | omega | (dsimp only;omega)) (fun h=>(by first | rfl | cases h))) (rfl)) rfl rfl rfl rfl rfl ?_
  | refine sth 66 (fun hb=>HOp.val (v':=boolV (kV (routeV L []) s).2.2) (hop_load_fp ty_4 rfl (by first | exact Nat.le_of_ble_eq_true rfl | (simp at hb;first | omega | (dsimp only;omega) | (simp <;> omega)) | omega | (dsimp only;omega)) (fun h=>(by first | rfl | cases h))) (rfl)) rfl rfl rfl rfl rfl ?_
  first
  | refine hq_p 71 (hstep_and _ _ rfl rfl rfl) rfl rfl rfl ?_
  | refine hq_p 71 (hstep_or _ _ rfl rfl rfl) rfl rfl rfl ?_
  | refine hq_p 71 (hstep_ite _ _ _ rfl rfl rfl) rfl rfl rfl ?_
  | refine hq_p 71 (hstep_pick _ _ _ _ rfl rfl rfl (fun _=>.refl _) (fun _=>.refl _)) rfl rfl rfl ?_
  refine sm ?_
  first
  | refine hq_g 73 25 72 false _ (fun hb=>HOp.val (v':=stV (kV (routeV L []) s).2.1) (hol_load ty_26 rfl (by first | exact Nat.le_of_ble_eq_true rfl | (simp at hb;first | omega | (dsimp only;omega) | (simp <;> omega)) | omega | (dsimp only;omega)) (by first | exact Nat.le_of_ble_eq_true rfl | (simp at hb;first | omega | (dsimp only;omega) | (simp <;> omega)) | omega | (dsimp only;omega)) (fun h=>(by first | rfl | cases h))) (rfl)) rfl rfl rfl rfl (pre1 rfl) rfl rfl rfl ?_
  | refine hq_g2 73 25 72 _ _ false _ (fun hb=>HOp.val (v':=stV (kV (routeV L []) s).2.1) (hol_load ty_26 rfl (by first | exact Nat.le_of_ble_eq_true rfl | (simp at hb;first | omega | (dsimp only;omega) | (simp <;> omega)) | omega | (dsimp only;omega)) (by first | exact Nat.le_of_ble_eq_true rfl | (simp at hb;first | omega | (dsimp only;omega) | (simp <;> omega)) | omega | (dsimp only;omega)) (fun h=>(by first | rfl | cases h))) (rfl)) rfl rfl rfl rfl (pre1 rfl) rfl rfl rfl ?_
  | refine stg 72 (fun hb=>HOp.val (v':=stV (kV (routeV L []) s).2.1) (hop_load_fp ty_26 rfl (by first | exact Nat.le_of_ble_eq_true rfl | (simp at hb;first | omega | (dsimp only;omega) | (simp <;> omega)) | omega | (dsimp only;omega)) (fun h=>(by first | rfl | cases h))) (rfl)) rfl rfl rfl rfl rfl ?_
  | refine sth 72 (fun hb=>HOp.val (v':=stV (kV (routeV L []) s).2.1) (hop_load_fp ty_26 rfl (by first | exact Nat.le_of_ble_eq_true rfl | (simp at hb;first | omega | (dsimp only;omega) | (simp <;> omega)) | omega | (dsimp only;omega)) (fun h=>(by first | rfl | cases h))) (rfl)) rfl rfl rfl rfl rfl ?_
  first
  | refine stg 72 (fun hb=>hop_call0 (xs:=[_]) (shape_h (kV (routeV L []) s).2.1 (by rw [kV_len.1];omega) (by rw [kV_len.2];omega)) ⟨rfl,trivial⟩ ⟨(Fz.eq rfl),trivial⟩) rfl rfl rfl rfl rfl ?_
  | refine sth 72 (fun hb=>hop_call0 (xs:=[_]) (shape_h (kV (routeV L []) s).2.1 (by rw [kV_len.1];omega) (by rw [kV_len.2];omega)) ⟨rfl,trivial⟩ ⟨(Fz.eq rfl),trivial⟩) rfl rfl rfl rfl rfl ?_
  first
  | refine stg 72 (fun hb=>hop_not rfl) rfl rfl rfl rfl rfl ?_
  | refine sth 72 (fun hb=>hop_not rfl) rfl rfl rfl rfl rfl ?_
  first
  | refine hq_p 76 (hstep_and _ _ rfl rfl rfl) rfl rfl rfl ?_
  | refine hq_p 76 (hstep_or _ _ rfl rfl rfl) rfl rfl rfl ?_
  | refine hq_p 76 (hstep_ite _ _ _ rfl rfl rfl) rfl rfl rfl ?_
  | refine hq_p 76 (hstep_pick _ _ _ _ rfl rfl rfl (fun _=>.refl _) (fun _=>.refl _)) rfl rfl rfl ?_
  refine nu ?_
  refine h11 _ ?_
  refine wc (fun hc1=>?_) (fun hc1=>?_)
  ·have hr1:=hc1;(try simp only [hcs,Int.reduceToNat] at hc1)
   have hn:¬ ((kV (routeV L []) s).1=true∧(kV (routeV L []) s).2.2=false∧(kV (routeV L []) s).2.1.shape=true):=(by rintro ⟨h1,h2,h3⟩;have h9:((!(kV (routeV L []) s).1||(kV (routeV L []) s).2.2)||!(kV (routeV L []) s).2.1.shape)=true:=hr1;rw [h1,h2,h3] at h9;cases h9)
   refine srg fun N h13=>?_
   refine s0 (hop_build (hs:=[]) st_26 rfl rfl trivial) ?_
   first
   | refine hm_s1 (hol_storeW ty_26 rfl rfl rfl rfl) rfl rfl (pre1 rfl) (c':=c+40) rfl ?_
   | refine hm_s1 (hol_store ty_26 rfl rfl rfl rfl (by first | exact Nat.le_of_ble_eq_true rfl | omega | (dsimp only;omega) | (simp <;> omega)) (by first | exact Nat.le_of_ble_eq_true rfl | omega | (dsimp only;omega) | (simp <;> omega)) (by first | exact Nat.le_of_ble_eq_true rfl | omega | (dsimp only;omega) | (simp <;> omega))) rfl rfl (pre1 rfl) (c':=c+40) rfl ?_
   refine sa<|snl h13<|hw_ret<|hq_then_ret ?_
   refine hf_retR2 ok hX RetS.one rfl (rvl_cell rfl rfl ty_26 rqc rfl rfl) (rval_tmp rfl) [] rfl pre0 (()) (trivial) (by rfl) (by rfl) ((by rw [byV_no hn];exact .fz _ _ (fz_t2 (fz_agg10 fzc fzc fzc fzc fzc fzc fzc fzc fzc fzc) (.imm _)))) ?_
   exact ⟨⟨_,rfl,(okz_rtN rfl rfl rfl rfl rfl)⟩,⟨⟨_,rfl,okz_mps⟩,trivial⟩⟩
  have hr1:=hc1;(try simp only [hcs,Int.reduceToNat] at hc1)
  have hy:(kV (routeV L []) s).1=true∧(kV (routeV L []) s).2.2=false∧(kV (routeV L []) s).2.1.shape=true:=(by have h9:((!(kV (routeV L []) s).1||(kV (routeV L []) s).2.2)||!(kV (routeV L []) s).2.1.shape)=false:=hr1;cases e1:(kV (routeV L []) s).1 <;> cases e2:(kV (routeV L []) s).2.2 <;> cases e3:(kV (routeV L []) s).2.1.shape <;> first | exact ⟨rfl,rfl,rfl⟩ | (rw [e1,e2,e3] at h9;cases h9))
  refine hw_skip<|h10 _<|srg fun N h14=>?_
  first
  | refine hq_ 78 (hol_load ty_26 rfl (by first | exact Nat.le_of_ble_eq_true rfl | omega | (dsimp only;omega) | (simp <;> omega)) (by first | exact Nat.le_of_ble_eq_true rfl | omega | (dsimp only;omega) | (simp <;> omega)) (fun h=>(by first | rfl | cases h))) rfl rfl (pre1 rfl) rfl rfl ?_
  | refine hq_ 78 (hop_load_fp ty_26 rfl (by first | exact Nat.le_of_ble_eq_true rfl | omega | (dsimp only;omega) | (simp <;> omega)) (fun h=>(by first | rfl | cases h))) rfl rfl pre0 rfl rfl ?_
  first
  | refine hm_s1 (hol_storeW ty_26 rfl rfl rfl rfl) rfl rfl (pre1 rfl) (c':=c+40) rfl ?_
  | refine hm_s1 (hol_store ty_26 rfl rfl rfl rfl (by first | exact Nat.le_of_ble_eq_true rfl | omega | (dsimp only;omega) | (simp <;> omega)) (by first | exact Nat.le_of_ble_eq_true rfl | omega | (dsimp only;omega) | (simp <;> omega)) (by first | exact Nat.le_of_ble_eq_true rfl | omega | (dsimp only;omega) | (simp <;> omega))) rfl rfl (pre1 rfl) (c':=c+40) rfl ?_
  refine sa<|snl h14<|hw_ret ?_
  refine hf_retR2 ok hX RetS.one rfl (rvl_cell rfl rfl ty_26 rqc rfl rfl) (rval_tmp rfl) [] rfl pre0 (()) (trivial) (by rfl) (by rfl) ((by rw [byV_yes hs hg hy];exact .fz _ _ (fz_t2 (fz_agg10 fzc fzc fzc fzc fzc fzc fzc fzc (by exact fz_toks (kV (routeV L []) s).2.1.sl) (by exact fz_mkss (kV (routeV L []) s).2.1.sets)) (.imm _)))) ?_
  exact ⟨⟨_,rfl,(okz_rtN rfl rfl rfl rfl rfl)⟩,⟨⟨_,rfl,okz_mps⟩,trivial⟩⟩
theorem thrN_h (g g2:Nat) (L:List (List Rg)) (hL:L.length≤100000) (hok:RtOk L []) (s:St) (l1:s.sl.length≤20000) (l2:s.sets.length≤20000) {o:Option St} (ho:byV (routeV L []) s=o):HFunD Try.prog 15 [stV s,.pt 9101 g 0 0] [(9101,rtO g (.os 9102 g2 0 L.length) (.imm (.map none))),(9102,mpsO g2 L)] (optV o) [(9101,rtO g (.os 9102 g2 0 L.length) (.imm (.map none))),(9102,mpsO g2 L)]:=by
 intro c
 subst ho
 refine hfun_of Try.func15 rfl kr _ _ _ _ rfl 15 rfl rfl (fun X ok hX=>?_)
 refine srg fun N h1=>?_
 refine hm_1 2 (hop_box (id:=2) (sz:=10) rfl rfl rfl omx omx) rfl rfl pre0 rfl rfl (c':=c+1) rfl ?_
 refine hm_1 4 (hop_alloc (id:=4) (sz:=10) zc_26 rfl rfl omx omx) rfl rfl pre0 rfl rfl (c':=c+2) rfl ?_
 refine sa<|snl h1<|hw_seq fun Nh2 h2=>srg fun N h3=>sm ?_
 first
 | refine hq_ 7 (hop_eql_ptn (by kernel_rfl) rfl rfl) rfl rfl pre0 rfl rfl ?_
 | refine hq_ 7 (hop_eql_fpn (by kernel_rfl) rfl rfl) rfl rfl pre0 rfl rfl ?_
 | refine hq_ 7 (hop_eql_nnp (by kernel_rfl) rfl rfl) rfl rfl pre0 rfl rfl ?_
 | refine hq_ 7 (hop_eql_fp rfl rfl rfl) rfl rfl pre0 rfl rfl ?_
 | refine hq_ 7 (hop_eql_pn rfl rfl rfl) rfl rfl pre0 rfl rfl ?_
 refine snl h3 ?_
 refine wc (fun hc0=>?_) (fun hc0=>?_)
 ·have hr0:=hc0;(try simp only [hcs,Int.reduceToNat] at hc0)
  exfalso;simp at hr0
 have hr0:=hc0;(try simp only [hcs,Int.reduceToNat] at hc0)
 refine hw_skip<|h2 _<|hw_seq fun Nh4 h4=>?_
 rcases hby:byV (routeV L []) s with _ | y
 ·skip
  refine hw_region ?_
  first
  | refine hq_ 9 (hol_load ty_26 rfl (by first | exact Nat.le_of_ble_eq_true rfl | omega | (dsimp only;omega) | (simp <;> omega)) (by first | exact Nat.le_of_ble_eq_true rfl | omega | (dsimp only;omega) | (simp <;> omega)) (fun h=>(by first | rfl | cases h))) rfl rfl (pre1 rfl) rfl rfl ?_
  | refine hq_ 9 (hop_load_fp ty_26 rfl (by first | exact Nat.le_of_ble_eq_true rfl | omega | (dsimp only;omega) | (simp <;> omega)) (fun h=>(by first | rfl | cases h))) rfl rfl pre0 rfl rfl ?_
  refine sm ?_
  refine s0 (hop_makeBound rfl) ?_
  refine hf_callR 12 (xs:=[_,_]) (pre:=[(9101,_),(9102,_)]) ((hby▸byN_h g g2 L hL hok s l1 l2) _) ⟨rfl,⟨rfl,trivial⟩⟩ (preC rfl (preC rfl pre0)) rfl rfl (fun x1 c1 hx1=>?_)
  (try dsimp only)
  refine s0 hex ?_
  refine s0 hex ?_
  first
  | refine hm_s1 (hol_storeW ty_26 rfl rfl rfl rfl) rfl rfl (pre1 rfl) (c':=c1+1) rfl ?_
  | refine hm_s1 (hol_store ty_26 rfl rfl rfl rfl (by first | exact Nat.le_of_ble_eq_true rfl | omega | (dsimp only;omega) | (simp <;> omega)) (by first | exact Nat.le_of_ble_eq_true rfl | omega | (dsimp only;omega) | (simp <;> omega)) (by first | exact Nat.le_of_ble_eq_true rfl | omega | (dsimp only;omega) | (simp <;> omega))) rfl rfl (pre1 rfl) (c':=c1+1) rfl ?_
  refine sa<|snl h4<|hw_ret ?_
  refine hf_retR2 ok hX RetS.one rfl (rvl_cell rfl rfl ty_26 rqc rfl rfl) (rval_tmp rfl) [] rfl pre0 (()) (trivial) (by rfl) (by rfl) ((by rw [hby];exact .fz _ _ (fz_t2 (fz_agg10 fzc fzc fzc fzc fzc fzc fzc fzc (by exact fz_toks St.none.sl) (by exact fz_mkss St.none.sets)) (.imm _)))) ?_
  exact ⟨⟨_,rfl,(okz_rtN rfl rfl rfl rfl rfl)⟩,⟨⟨_,rfl,okz_mps⟩,trivial⟩⟩
 ·skip
  refine hw_region ?_
  first
  | refine hq_ 9 (hol_load ty_26 rfl (by first | exact Nat.le_of_ble_eq_true rfl | omega | (dsimp only;omega) | (simp <;> omega)) (by first | exact Nat.le_of_ble_eq_true rfl | omega | (dsimp only;omega) | (simp <;> omega)) (fun h=>(by first | rfl | cases h))) rfl rfl (pre1 rfl) rfl rfl ?_
  | refine hq_ 9 (hop_load_fp ty_26 rfl (by first | exact Nat.le_of_ble_eq_true rfl | omega | (dsimp only;omega) | (simp <;> omega)) (fun h=>(by first | rfl | cases h))) rfl rfl pre0 rfl rfl ?_
  refine sm ?_
  refine s0 (hop_makeBound rfl) ?_
  refine hf_callR 12 (xs:=[_,_]) (pre:=[(9101,_),(9102,_)]) ((hby▸byN_h g g2 L hL hok s l1 l2) _) ⟨rfl,⟨rfl,trivial⟩⟩ (preC rfl (preC rfl pre0)) rfl rfl (fun x2 c2 hx2=>?_)
  (try dsimp only)
  refine s0 hex ?_
  refine s0 hex ?_
  first
  | refine hm_s1 (hol_storeW ty_26 rfl rfl rfl rfl) rfl rfl (pre1 rfl) (c':=c2+1) rfl ?_
  | refine hm_s1 (hol_store ty_26 rfl rfl rfl rfl (by first | exact Nat.le_of_ble_eq_true rfl | omega | (dsimp only;omega) | (simp <;> omega)) (by first | exact Nat.le_of_ble_eq_true rfl | omega | (dsimp only;omega) | (simp <;> omega)) (by first | exact Nat.le_of_ble_eq_true rfl | omega | (dsimp only;omega) | (simp <;> omega))) rfl rfl (pre1 rfl) (c':=c2+1) rfl ?_
  refine sa<|snl h4<|hw_ret ?_
  refine hf_retR2 ok hX RetS.one rfl (rvl_cell rfl rfl ty_26 rqc rfl rfl) (rval_tmp rfl) [] rfl pre0 (()) (trivial) (by rfl) (by rfl) ((by rw [hby];exact .fz _ _ (fz_t2 (fz_agg10 fzc fzc fzc fzc fzc fzc fzc fzc (by exact fz_toks y.sl) (by exact fz_mkss y.sets)) (.imm _)))) ?_
  exact ⟨⟨_,rfl,(okz_rtN rfl rfl rfl rfl rfl)⟩,⟨⟨_,rfl,okz_mps⟩,trivial⟩⟩
theorem addX_h (g g2:Nat) (L:List (List Rg)) (m:List Rg) (hm:¬ rightM m=true):HFunD Try.prog 21 [.pt 9101 g 0 0,rgsV m] [(9101,rtO g (.os 9102 g2 0 L.length) (.imm (.map none))),(9102,mpsO g2 L)] (intV 1) [(9101,rtO g (.os 9102 g2 0 L.length) (.imm (.map none))),(9102,mpsO g2 L)]:=by
 intro c
 refine hfun_of Try.func21 rfl kr _ _ _ _ rfl 30 rfl rfl (fun X ok hX=>?_)
 refine srg fun N h1=>sa<|snl h1<|hw_seq fun Nh2 h2=>hw_block<|srg fun N h3=>sm ?_
 first
 | refine hq_ 7 (hop_eql_ptn (by kernel_rfl) rfl rfl) rfl rfl pre0 rfl rfl ?_
 | refine hq_ 7 (hop_eql_fpn (by kernel_rfl) rfl rfl) rfl rfl pre0 rfl rfl ?_
 | refine hq_ 7 (hop_eql_nnp (by kernel_rfl) rfl rfl) rfl rfl pre0 rfl rfl ?_
 | refine hq_ 7 (hop_eql_fp rfl rfl rfl) rfl rfl pre0 rfl rfl ?_
 | refine hq_ 7 (hop_eql_pn rfl rfl rfl) rfl rfl pre0 rfl rfl ?_
 refine sa<|snl h3 ?_
 refine wc (fun hc0=>?_) (fun hc0=>?_)
 ·have hr0:=hc0;(try simp only [hcs,Int.reduceToNat] at hc0)
  exfalso;simp at hr0
 have hr0:=hc0;(try simp only [hcs,Int.reduceToNat] at hc0)
 refine srg fun N h4=>sm ?_
 refine s0 (hop_call0 (xs:=[_]) (right_h m) ⟨rfl,trivial⟩ ⟨fe,trivial⟩) ?_
 refine s0 (hop_not rfl) ?_
 refine sa<|snl h4 ?_
 refine wc (fun hc1=>?_) (fun hc1=>?_)
 ·have hr1:=hc1;(try simp only [hcs,Int.reduceToNat] at hc1)
  refine srg fun N h5=>sa<|snl h5<|hw_ret<|hq_block_ret<|hq_then_ret ?_
  refine hf_retR1 ok hX RetS.one rfl (rval_tmp rfl) [] rfl pre0 (()) (trivial) (by rfl) (by rfl) (kza) ?_
  exact ⟨⟨_,rfl,(okz_rtN rfl rfl rfl rfl rfl)⟩,⟨⟨_,rfl,okz_mps⟩,trivial⟩⟩
 have hr1:=hc1;(try simp only [hcs,Int.reduceToNat] at hc1)
 exfalso;exact absurd (by simpa using hr1) hm
theorem over_h (s:St) (m:List Rg) (l1:s.sl.length≤20000) (l2:s.sets.length≤20000) {o:Option St} (ho:overV s m=o):HPure Try.prog 26 [stV s,rgsV m] (optV o):=by
 subst ho
 refine hpure_of Try.func26 rfl kr _ _ _ rfl 15 rfl rfl (fun w F=>?_)
 refine srg fun N h1=>?_
 refine hm_1 2 (hop_box (id:=2) (sz:=10) rfl rfl rfl omx omx) rfl rfl pre0 rfl rfl (c':=1) rfl ?_
 refine hm_1 4 (hop_alloc (id:=4) (sz:=10) zc_26 rfl rfl omx omx) rfl rfl pre0 rfl rfl (c':=2) rfl ?_
 refine sa<|snl h1<|srg fun N h2=>?_
 refine hm_1 6 (hop_alloc (id:=9101) (sz:=2) zc_44 rfl rfl (by decide) (by decide)) rfl rfl pre0 rfl rfl (c':=3) rfl ?_
 refine snl h2<|hw_seq fun Nh3 h3=>hw_seq fun Nh4 h4=>?_
 by_cases hm:rightM m=true
 ·skip
  refine (hsub_ownc 9101 0 9102 1 48 (mpsF []) (rtF (.os 9102 3 0 0) (.imm (.map none))) rfl rfl (fun j hj=>by match j,hj with | 0,_=>exact .inl ⟨rfl,rfl⟩ | 1,_=>exact .inr rfl) (by decide) (by decide) (c':=4) rfl).wp ?_
  refine hw_region<|sm ?_
  refine hf_callR 8 (xs:=[_,_]) (pre:=[(9101,_),(9102,_)]) (addN_h _ 2 3 [] (by decide) m hm) ⟨rfl,⟨rfl,trivial⟩⟩ (preC rfl (preC rfl pre0)) rfl rfl (fun g5 c1 hx1=>?_)
  (try dsimp only)
  refine s0 (hop_neq rfl rfl) ?_
  refine snl h4 ?_
  refine wc (fun hc0=>?_) (fun hc0=>?_)
  ·have hr0:=hc0;(try simp only [hcs,Int.reduceToNat] at hc0)
   exfalso;simp at hr0
  have hr0:=hc0;(try simp only [hcs,Int.reduceToNat] at hc0)
  refine hw_skip<|h3 _<|hw_seq fun Nh5 h5=>?_
  rcases hby:byV (routeV [m] []) s with _ | y
  ·skip
   refine hw_region ?_
   first
   | refine hq_ 11 (hol_load ty_26 rfl (by first | exact Nat.le_of_ble_eq_true rfl | omega | (dsimp only;omega) | (simp <;> omega)) (by first | exact Nat.le_of_ble_eq_true rfl | omega | (dsimp only;omega) | (simp <;> omega)) (fun h=>(by first | rfl | cases h))) rfl rfl (pre1 rfl) rfl rfl ?_
   | refine hq_ 11 (hop_load_fp ty_26 rfl (by first | exact Nat.le_of_ble_eq_true rfl | omega | (dsimp only;omega) | (simp <;> omega)) (fun h=>(by first | rfl | cases h))) rfl rfl pre0 rfl rfl ?_
   refine hf_callR 12 (xs:=[_,_]) (pre:=[(9101,_),(9102,_)]) (thrN_h 2 g5 [m] (by simp) (rtok1 hm) s l1 l2 hby _) ⟨rfl,⟨rfl,trivial⟩⟩ (preC rfl (preC rfl pre0)) rfl rfl (fun x2 c2 hx2=>?_)
   (try dsimp only)
   refine s0 hex ?_
   refine s0 hex ?_
   first
   | refine hm_s1 (hol_storeW ty_26 rfl rfl rfl rfl) rfl rfl (pre1 rfl) (c':=c2+1) rfl ?_
   | refine hm_s1 (hol_store ty_26 rfl rfl rfl rfl (by first | exact Nat.le_of_ble_eq_true rfl | omega | (dsimp only;omega) | (simp <;> omega)) (by first | exact Nat.le_of_ble_eq_true rfl | omega | (dsimp only;omega) | (simp <;> omega)) (by first | exact Nat.le_of_ble_eq_true rfl | omega | (dsimp only;omega) | (simp <;> omega))) rfl rfl (pre1 rfl) (c':=c2+1) rfl ?_
   refine sa<|snl h5<|hw_ret ?_
   refine hq_ret2 rfl (rvl_cell rfl rfl ty_26 rqc rfl rfl) (rval_tmp rfl) [] rfl pre0 ?_
   rw [show overV s m=byV (routeV [m] []) s from if_pos hm,hby];exact fz_t2 (fz_agg10 fzc fzc fzc fzc fzc fzc fzc fzc (by exact fz_toks St.none.sl) (by exact fz_mkss St.none.sets)) (.imm _)
  ·skip
   refine hw_region ?_
   first
   | refine hq_ 11 (hol_load ty_26 rfl (by first | exact Nat.le_of_ble_eq_true rfl | omega | (dsimp only;omega) | (simp <;> omega)) (by first | exact Nat.le_of_ble_eq_true rfl | omega | (dsimp only;omega) | (simp <;> omega)) (fun h=>(by first | rfl | cases h))) rfl rfl (pre1 rfl) rfl rfl ?_
   | refine hq_ 11 (hop_load_fp ty_26 rfl (by first | exact Nat.le_of_ble_eq_true rfl | omega | (dsimp only;omega) | (simp <;> omega)) (fun h=>(by first | rfl | cases h))) rfl rfl pre0 rfl rfl ?_
   refine hf_callR 12 (xs:=[_,_]) (pre:=[(9101,_),(9102,_)]) (thrN_h 2 g5 [m] (by simp) (rtok1 hm) s l1 l2 hby _) ⟨rfl,⟨rfl,trivial⟩⟩ (preC rfl (preC rfl pre0)) rfl rfl (fun x3 c3 hx3=>?_)
   (try dsimp only)
   refine s0 hex ?_
   refine s0 hex ?_
   first
   | refine hm_s1 (hol_storeW ty_26 rfl rfl rfl rfl) rfl rfl (pre1 rfl) (c':=c3+1) rfl ?_
   | refine hm_s1 (hol_store ty_26 rfl rfl rfl rfl (by first | exact Nat.le_of_ble_eq_true rfl | omega | (dsimp only;omega) | (simp <;> omega)) (by first | exact Nat.le_of_ble_eq_true rfl | omega | (dsimp only;omega) | (simp <;> omega)) (by first | exact Nat.le_of_ble_eq_true rfl | omega | (dsimp only;omega) | (simp <;> omega))) rfl rfl (pre1 rfl) (c':=c3+1) rfl ?_
   refine sa<|snl h5<|hw_ret ?_
   refine hq_ret2 rfl (rvl_cell rfl rfl ty_26 rqc rfl rfl) (rval_tmp rfl) [] rfl pre0 ?_
   rw [show overV s m=byV (routeV [m] []) s from if_pos hm,hby];exact fz_t2 (fz_agg10 fzc fzc fzc fzc fzc fzc fzc fzc (by exact fz_toks y.sl) (by exact fz_mkss y.sets)) (.imm _)
 ·skip
  refine (hsub_ownc 9101 0 9102 1 48 (mpsF []) (rtF (.os 9102 3 0 0) (.imm (.map none))) rfl rfl (fun j hj=>by match j,hj with | 0,_=>exact .inl ⟨rfl,rfl⟩ | 1,_=>exact .inr rfl) (by decide) (by decide) (c':=4) rfl).wp ?_
  refine hw_region<|sm ?_
  refine hf_callR 8 (xs:=[_,_]) (pre:=[(9101,_),(9102,_)]) (addX_h 2 3 [] m hm _) ⟨rfl,⟨rfl,trivial⟩⟩ (preC rfl (preC rfl pre0)) rfl rfl (fun x4 c4 hx4=>?_)
  (try dsimp only)
  refine s0 (hop_neq rfl rfl) ?_
  refine snl h4 ?_
  refine wc (fun hc0=>?_) (fun hc0=>?_)
  ·have hr0:=hc0;(try simp only [hcs,Int.reduceToNat] at hc0)
   refine srg fun N h6=>?_
   refine s0 (hop_build (hs:=[]) st_26 rfl rfl trivial) ?_
   first
   | refine hm_s1 (hol_storeW ty_26 rfl rfl rfl rfl) rfl rfl (pre1 rfl) (c':=c4+1) rfl ?_
   | refine hm_s1 (hol_store ty_26 rfl rfl rfl rfl (by first | exact Nat.le_of_ble_eq_true rfl | omega | (dsimp only;omega) | (simp <;> omega)) (by first | exact Nat.le_of_ble_eq_true rfl | omega | (dsimp only;omega) | (simp <;> omega)) (by first | exact Nat.le_of_ble_eq_true rfl | omega | (dsimp only;omega) | (simp <;> omega))) rfl rfl (pre1 rfl) (c':=c4+1) rfl ?_
   refine sa<|snl h6<|hw_ret<|hq_then_ret ?_
   refine hq_ret2 rfl (rvl_cell rfl rfl ty_26 rqc rfl rfl) (rval_tmp rfl) [] rfl pre0 ?_
   rw [show overV s m=Option.none from if_neg hm];exact fz_t2 (fz_agg10 fzc fzc fzc fzc fzc fzc fzc fzc fzc fzc) (.imm _)
  have hr0:=hc0;(try simp only [hcs,Int.reduceToNat] at hc0)
  exfalso;simp at hr0
def pastV (s a:St):Option St:=if a.shape=true then overV s (mapV a) else none
theorem past_h (s a:St) (l1:s.sl.length≤20000) (l2:s.sets.length≤20000) (m1:a.sl.length≤20000) (m2:a.sets.length≤20000) {o:Option St} (ho:pastV s a=o):HPure Try.prog 28 [stV s,stV a] (optV o):=by
 subst ho
 refine hpure_of Try.func28 rfl kr _ _ _ rfl 16 rfl rfl (fun w F=>?_)
 refine srg fun N h1=>?_
 refine hm_1 2 (hop_box (id:=2) (sz:=10) rfl rfl rfl omx omx) rfl rfl pre0 rfl rfl (c':=1) rfl ?_
 refine hm_1 3 (hop_box (id:=3) (sz:=10) rfl rfl rfl omx omx) rfl rfl pre0 rfl rfl (c':=2) rfl ?_
 refine hm_1 4 (hop_alloc (id:=4) (sz:=10) zc_26 rfl rfl omx omx) rfl rfl pre0 rfl rfl (c':=3) rfl ?_
 refine sa<|snl h1<|hw_seq fun Nh2 h2=>srg fun N h3=>?_
 first
 | refine hq_ 6 (hol_load ty_26 rfl (by first | exact Nat.le_of_ble_eq_true rfl | omega | (dsimp only;omega) | (simp <;> omega)) (by first | exact Nat.le_of_ble_eq_true rfl | omega | (dsimp only;omega) | (simp <;> omega)) (fun h=>(by first | rfl | cases h))) rfl rfl (pre1 rfl) rfl rfl ?_
 | refine hq_ 6 (hop_load_fp ty_26 rfl (by first | exact Nat.le_of_ble_eq_true rfl | omega | (dsimp only;omega) | (simp <;> omega)) (fun h=>(by first | rfl | cases h))) rfl rfl pre0 rfl rfl ?_
 refine s0 (hop_call0 (xs:=[_]) (shape_h a om om) ⟨rfl,trivial⟩ ⟨fe,trivial⟩) ?_
 refine s0 (hop_not rfl) ?_
 refine snl h3 ?_
 refine wc (fun hc0=>?_) (fun hc0=>?_)
 ·have hr0:=hc0;(try simp only [hcs,Int.reduceToNat] at hc0)
  have ha:¬ a.shape=true:=(by simpa using hr0)
  refine srg fun N h4=>?_
  refine s0 (hop_build (hs:=[]) st_26 rfl rfl trivial) ?_
  first
  | refine hm_s1 (hol_storeW ty_26 rfl rfl rfl rfl) rfl rfl (pre1 rfl) (c':=4) rfl ?_
  | refine hm_s1 (hol_store ty_26 rfl rfl rfl rfl (by first | exact Nat.le_of_ble_eq_true rfl | omega | (dsimp only;omega) | (simp <;> omega)) (by first | exact Nat.le_of_ble_eq_true rfl | omega | (dsimp only;omega) | (simp <;> omega)) (by first | exact Nat.le_of_ble_eq_true rfl | omega | (dsimp only;omega) | (simp <;> omega))) rfl rfl (pre1 rfl) (c':=4) rfl ?_
  refine sa<|snl h4<|hw_ret<|hq_then_ret ?_
  refine hq_ret2 rfl (rvl_cell rfl rfl ty_26 rqc rfl rfl) (rval_tmp rfl) [] rfl pre0 ?_
  rw [show pastV s a=Option.none from if_neg ha];exact fz_t2 (fz_agg10 fzc fzc fzc fzc fzc fzc fzc fzc fzc fzc) (.imm _)
 have hr0:=hc0;(try simp only [hcs,Int.reduceToNat] at hc0)
 have ha:a.shape=true:=(by simpa using hr0)
 refine hw_skip<|h2 _<|hw_seq fun Nh5 h5=>?_
 rcases hov:overV s (mapV a) with _ | y
 ·skip
  refine hd_start ?_
  first
  | refine hd_q 10 (hol_load ty_26 rfl (by first | exact Nat.le_of_ble_eq_true rfl | omega | (dsimp only;omega) | (simp <;> omega)) (by first | exact Nat.le_of_ble_eq_true rfl | omega | (dsimp only;omega) | (simp <;> omega)) (fun h=>(by first | rfl | cases h))) rfl rfl (pre1 rfl) rfl rfl (k':=1) rfl ?_
  | refine hd_q 10 (hop_load_fp ty_26 rfl (by first | exact Nat.le_of_ble_eq_true rfl | omega | (dsimp only;omega) | (simp <;> omega)) (fun h=>(by first | rfl | cases h))) rfl rfl pre0 rfl rfl (k':=1) rfl ?_
  first
  | refine hd_q 11 (hol_load ty_26 rfl (by first | exact Nat.le_of_ble_eq_true rfl | omega | (dsimp only;omega) | (simp <;> omega)) (by first | exact Nat.le_of_ble_eq_true rfl | omega | (dsimp only;omega) | (simp <;> omega)) (fun h=>(by first | rfl | cases h))) rfl rfl (pre1 rfl) rfl rfl (k':=2) rfl ?_
  | refine hd_q 11 (hop_load_fp ty_26 rfl (by first | exact Nat.le_of_ble_eq_true rfl | omega | (dsimp only;omega) | (simp <;> omega)) (fun h=>(by first | rfl | cases h))) rfl rfl pre0 rfl rfl (k':=2) rfl ?_
  refine d0 3 (hop_call0 (xs:=[_]) (map_h a ha) ⟨rfl,trivial⟩ ⟨fe,trivial⟩) ?_
  refine d0 4 (hop_call0 (xs:=[_,_]) (over_h s (mapV a) l1 l2 hov) ⟨rfl,⟨rfl,trivial⟩⟩ ⟨fe,⟨fe,trivial⟩⟩) ?_
  refine d0 5 hex ?_
  refine d0 6 hex ?_
  first
  | refine hd_s1 (hol_storeW ty_26 rfl rfl rfl rfl) rfl rfl (pre1 rfl) (k':=7) rfl ?_
  | refine hd_s1 (hol_store ty_26 rfl rfl rfl rfl (by first | exact Nat.le_of_ble_eq_true rfl | omega | (dsimp only;omega) | (simp <;> omega)) (by first | exact Nat.le_of_ble_eq_true rfl | omega | (dsimp only;omega) | (simp <;> omega)) (by first | exact Nat.le_of_ble_eq_true rfl | omega | (dsimp only;omega) | (simp <;> omega))) rfl rfl (pre1 rfl) (k':=7) rfl ?_
  refine d0 8 (hop_assign rfl) ?_
  refine hd_nil kr kr (c':=11) rfl ?_
  refine h5 _<|hw_ret ?_
  refine hq_ret2 rfl (rvl_cell rfl rfl ty_26 rqc rfl rfl) (rval_tmp rfl) [] rfl pre0 ?_
  rw [show pastV s a=overV s (mapV a) from if_pos ha,hov];exact fz_t2 (fz_agg10 fzc fzc fzc fzc fzc fzc fzc fzc (by exact fz_toks St.none.sl) (by exact fz_mkss St.none.sets)) (.imm _)
 ·skip
  refine hd_start ?_
  first
  | refine hd_q 10 (hol_load ty_26 rfl (by first | exact Nat.le_of_ble_eq_true rfl | omega | (dsimp only;omega) | (simp <;> omega)) (by first | exact Nat.le_of_ble_eq_true rfl | omega | (dsimp only;omega) | (simp <;> omega)) (fun h=>(by first | rfl | cases h))) rfl rfl (pre1 rfl) rfl rfl (k':=1) rfl ?_
  | refine hd_q 10 (hop_load_fp ty_26 rfl (by first | exact Nat.le_of_ble_eq_true rfl | omega | (dsimp only;omega) | (simp <;> omega)) (fun h=>(by first | rfl | cases h))) rfl rfl pre0 rfl rfl (k':=1) rfl ?_
  first
  | refine hd_q 11 (hol_load ty_26 rfl (by first | exact Nat.le_of_ble_eq_true rfl | omega | (dsimp only;omega) | (simp <;> omega)) (by first | exact Nat.le_of_ble_eq_true rfl | omega | (dsimp only;omega) | (simp <;> omega)) (fun h=>(by first | rfl | cases h))) rfl rfl (pre1 rfl) rfl rfl (k':=2) rfl ?_
  | refine hd_q 11 (hop_load_fp ty_26 rfl (by first | exact Nat.le_of_ble_eq_true rfl | omega | (dsimp only;omega) | (simp <;> omega)) (fun h=>(by first | rfl | cases h))) rfl rfl pre0 rfl rfl (k':=2) rfl ?_
  refine d0 3 (hop_call0 (xs:=[_]) (map_h a ha) ⟨rfl,trivial⟩ ⟨fe,trivial⟩) ?_
  refine d0 4 (hop_call0 (xs:=[_,_]) (over_h s (mapV a) l1 l2 hov) ⟨rfl,⟨rfl,trivial⟩⟩ ⟨fe,⟨fe,trivial⟩⟩) ?_
  refine d0 5 hex ?_
  refine d0 6 hex ?_
  first
  | refine hd_s1 (hol_storeW ty_26 rfl rfl rfl rfl) rfl rfl (pre1 rfl) (k':=7) rfl ?_
  | refine hd_s1 (hol_store ty_26 rfl rfl rfl rfl (by first | exact Nat.le_of_ble_eq_true rfl | omega | (dsimp only;omega) | (simp <;> omega)) (by first | exact Nat.le_of_ble_eq_true rfl | omega | (dsimp only;omega) | (simp <;> omega)) (by first | exact Nat.le_of_ble_eq_true rfl | omega | (dsimp only;omega) | (simp <;> omega))) rfl rfl (pre1 rfl) (k':=7) rfl ?_
  refine d0 8 (hop_assign rfl) ?_
  refine hd_nil kr kr (c':=11) rfl ?_
  refine h5 _<|hw_ret ?_
  refine hq_ret2 rfl (rvl_cell rfl rfl ty_26 rqc rfl rfl) (rval_tmp rfl) [] rfl pre0 ?_
  rw [show pastV s a=overV s (mapV a) from if_pos ha,hov];exact fz_t2 (fz_agg10 fzc fzc fzc fzc fzc fzc fzc fzc (by exact fz_toks y.sl) (by exact fz_mkss y.sets)) (.imm _)
set_option maxRecDepth 100000 in
set_option maxHeartbeats 4000000 in
theorem Same25_any (x y:Stp) (B1 B2:Nat) (w:World) (hx:x.Ok w B1) (hy:y.Ok w B2) (hB1:B1≤w.heap.size) (hB2:B2≤w.heap.size) (b1:x.n1≤1000000) (b2:y.n1≤1000000) (b3:x.n2≤1000000) (b4:y.n2≤1000000) :
  Calls Try.prog 10 #[.agg x.cells.toArray,.agg y.cells.toArray] w fun e w'=>e=.returned (.bool (decide (x.v=y.v)))∧Below w.heap.size w w':=by
 obtain ⟨⟨k,f,t,gf,gt,ins,mark,vl,sl,sets⟩,a1,n1,c1,a2,n2,c2⟩:=x
 obtain ⟨⟨k',f',t',gf',gt',ins',mark',vl',sl',sets'⟩,a1',n1',c1',a2',n2',c2'⟩:=y
 have HX:=Lib.hid hx
 have HY:=Lib.hid hy
 clear hx hy
 simp only at b1 b2 b3 b4
 simp only [Stp.cells]
 have HB0:Hid (∀ d1 d2,Below w.heap.size w ((w.alloc (.cells d1 26)).alloc (.cells d2 26))):=fun d1 d2=>((Below.refl _ w).alloc (Nat.le_refl _) _).alloc (by simp) _
 by_cases h0:k=k'
 case neg =>
  have hb:(k != k')=true:=by simpa using h0
  have hd:=st_ne (x:=⟨k,f,t,gf,gt,ins,mark,vl,sl,sets⟩) (y:=⟨k',f',t',gf',gt',ins',mark',vl',sl',sets'⟩) (fun e=>h0 e.1)
  clear h0
  go_enter Try.func10,Try.ntmps10
  go_wp2_with fail
  go_ret
  exact ⟨ret_bool hd.symm,HB0.out _ _⟩
 subst h0
 have g0:(k != k)=false:=by simp
 by_cases h1:f=f'
 case neg =>
  have hb:(f != f')=true:=by simpa using h1
  have hd:=st_ne (x:=⟨k,f,t,gf,gt,ins,mark,vl,sl,sets⟩) (y:=⟨k,f',t',gf',gt',ins',mark',vl',sl',sets'⟩) (fun e=>h1 e.2.1)
  clear h1
  go_enter Try.func10,Try.ntmps10
  go_wp2_with fail
  go_ret
  exact ⟨ret_bool hd.symm,HB0.out _ _⟩
 subst h1
 have g1:(f != f)=false:=by simp
 by_cases h2:t=t'
 case neg =>
  have hb:(t != t')=true:=by simpa using h2
  have hd:=st_ne (x:=⟨k,f,t,gf,gt,ins,mark,vl,sl,sets⟩) (y:=⟨k,f,t',gf',gt',ins',mark',vl',sl',sets'⟩) (fun e=>h2 e.2.2.1)
  clear h2
  go_enter Try.func10,Try.ntmps10
  go_wp2_with fail
  go_ret
  exact ⟨ret_bool hd.symm,HB0.out _ _⟩
 subst h2
 have g2:(t != t)=false:=by simp
 by_cases h3:gf=gf'
 case neg =>
  have hb:(gf != gf')=true:=by simpa using h3
  have hd:=st_ne (x:=⟨k,f,t,gf,gt,ins,mark,vl,sl,sets⟩) (y:=⟨k,f,t,gf',gt',ins',mark',vl',sl',sets'⟩) (fun e=>h3 e.2.2.2.1)
  clear h3
  go_enter Try.func10,Try.ntmps10
  go_wp2_with fail
  go_ret
  exact ⟨ret_bool hd.symm,HB0.out _ _⟩
 subst h3
 have g3:(gf != gf)=false:=by simp
 by_cases h4:gt=gt'
 case neg =>
  have hb:(gt != gt')=true:=by simpa using h4
  have hd:=st_ne (x:=⟨k,f,t,gf,gt,ins,mark,vl,sl,sets⟩) (y:=⟨k,f,t,gf,gt',ins',mark',vl',sl',sets'⟩) (fun e=>h4 e.2.2.2.2.1)
  clear h4
  go_enter Try.func10,Try.ntmps10
  go_wp2_with fail
  go_ret
  exact ⟨ret_bool hd.symm,HB0.out _ _⟩
 subst h4
 have g4:(gt != gt)=false:=by simp
 by_cases h5:ins=ins'
 case neg =>
  have hb:(ins != ins')=true:=by simpa using h5
  have hd:=st_ne (x:=⟨k,f,t,gf,gt,ins,mark,vl,sl,sets⟩) (y:=⟨k,f,t,gf,gt,ins',mark',vl',sl',sets'⟩) (fun e=>h5 e.2.2.2.2.2.1)
  clear h5
  go_enter Try.func10,Try.ntmps10
  go_wp2_with fail
  go_ret
  exact ⟨ret_bool hd.symm,HB0.out _ _⟩
 subst h5
 have g5:(ins != ins)=false:=by simp
 by_cases h6:mark=mark'
 case neg =>
  have hb:(mark != mark')=true:=by simpa using h6
  have hd:=st_ne (x:=⟨k,f,t,gf,gt,ins,mark,vl,sl,sets⟩) (y:=⟨k,f,t,gf,gt,ins,mark',vl',sl',sets'⟩) (fun e=>h6 e.2.2.2.2.2.2.1)
  clear h6
  go_enter Try.func10,Try.ntmps10
  go_wp2_with fail
  go_ret
  exact ⟨ret_bool hd.symm,HB0.out _ _⟩
 subst h6
 have g6:(mark != mark)=false:=by simp
 by_cases h7:vl=vl'
 case neg =>
  have hb:(vl != vl')=true:=by simpa using h7
  have hd:=st_ne (x:=⟨k,f,t,gf,gt,ins,mark,vl,sl,sets⟩) (y:=⟨k,f,t,gf,gt,ins,mark,vl',sl',sets'⟩) (fun e=>h7 e.2.2.2.2.2.2.2.1)
  clear h7
  go_enter Try.func10,Try.ntmps10
  go_wp2_with fail
  go_ret
  exact ⟨ret_bool hd.symm,HB0.out _ _⟩
 subst h7
 have g7:(vl != vl)=false:=by simp
 have HT:=Lib.hid (fun w' (hb:Below w.heap.size w w')=>Same13_any a1 a1' n1 n1' c1 c1' B1 B2 sl sl' w' HX.out.1 HY.out.1 (HX.out.2.2.1.below (hb.mono hB1)) (HY.out.2.2.1.below (hb.mono hB2)) (by omega) (by omega))
 have HS:=Lib.hid (fun w' (hb:Below w.heap.size w w')=>Sets_any a2 a2' n2 n2' c2 c2' B1 B2 sets sets' w' HX.out.2.1 HY.out.2.1 (HX.out.2.2.2.1.below (hb.mono hB1)) (HY.out.2.2.2.1.below (hb.mono hB2)) (by omega) (by omega))
 by_cases hl:sl=sl'
 case neg =>
  have hd:decide (sl=sl')=false:=by simpa using hl
  have hr:decide ((⟨k,f,t,gf,gt,ins,mark,vl,sl,sets⟩:St)=⟨k,f,t,gf,gt,ins,mark,vl,sl',sets'⟩)=false:=st_ne (fun e=>hl e.2.2.2.2.2.2.2.2.1)
  clear hl
  go_enter Try.func10,Try.ntmps10
  go_wp2_with (go_at_call 8;refine (HT.out _ (HB0.out _ _)).mono ?_;rintro e w1 ⟨rfl,q,hq⟩)
  go_ret
  exact ⟨ret_bool hr.symm,by subst hq;exact below_drewN (HB0.out _ _) _⟩
 have hd:decide (sl=sl')=true:=by simpa using hl
 have hr:decide ((⟨k,f,t,gf,gt,ins,mark,vl,sl,sets⟩:St)=⟨k,f,t,gf,gt,ins,mark,vl,sl',sets'⟩)=decide (sets=sets'):=by
  subst hl
  exact decide_eq_decide.2 ⟨fun e=>by injection e,fun e=>by subst e;rfl⟩
 clear hl
 go_enter Try.func10,Try.ntmps10
 go_wp2_with (first
  | (go_at_call 8;refine (HT.out _ (HB0.out _ _)).mono ?_;rintro e w1 ⟨rfl,q,rfl⟩)
  | (go_at_call 36;refine (HS.out _ (below_drewN (HB0.out _ _) _)).mono ?_;rintro e w2 ⟨rfl,q2,rfl⟩)
  | fail)
 go_ret
 exact ⟨ret_bool hr.symm,by first | exact below_drewN (HB0.out _ _) _ | exact below_drewN (below_drewN (HB0.out _ _) _) _⟩
@[reducible] def optQ (o:Option St):HV:=t2 (stV (o.getD St.none)) (boolV o.isSome)
theorem optV_q (o:Option St):optV o=optQ o:=by cases o <;> rfl
theorem overV_len {s y:St} {m:List Rg} (h:overV s m=some y):y.sl=s.sl∧y.sets=s.sets:=by
 unfold overV at h
 split at h
 ·unfold byV at h
  split at h
  ·split at h
   ·cases h
   ·split at h
    ·injection h with h;subst h;exact kV_len
    ·cases h
  ·cases h
 ·cases h
theorem over_len (s:St) (m:List Rg) (l:s.sl.length≤20000∧s.sets.length≤20000):((overV s m).getD St.none).sl.length≤20000∧((overV s m).getD St.none).sets.length≤20000:=by
 cases h:overV s m with
 | none=>exact ⟨Nat.zero_le _,Nat.zero_le _⟩
 | some y=>obtain ⟨e1,e2⟩:=overV_len h;show y.sl.length≤_∧y.sets.length≤_;rw [e1,e2];exact l
theorem past_len (s a:St) (l:s.sl.length≤20000∧s.sets.length≤20000):((pastV s a).getD St.none).sl.length≤20000∧((pastV s a).getD St.none).sets.length≤20000:=by
 unfold pastV
 split
 ·exact over_len s _ l
 ·exact ⟨Nat.zero_le _,Nat.zero_le _⟩
theorem over_q (s:St) (m:List Rg) (l:s.sl.length≤20000∧s.sets.length≤20000):HPure Try.prog 26 [stV s,rgsV m] (optQ (overV s m)):=optV_q _▸over_h s m l.1 l.2 rfl
theorem over26_q (s:St) (m:List Rg) (l:s.sl.length≤20000∧s.sets.length≤20000) {o:Option St} (ho:overV s m=o):HPure Try.prog 27 [stV s,rgsV m] (optQ o):=by subst ho;exact optV_q _▸over26_h s m l.1 l.2
theorem past_q (s a:St) (l:s.sl.length≤20000∧s.sets.length≤20000) (m:a.sl.length≤20000∧a.sets.length≤20000):HPure Try.prog 28 [stV s,stV a] (optQ (pastV s a)):=optV_q _▸past_h s a l.1 l.2 m.1 m.2 rfl
theorem same25q_h (a b:St) (l:a.sl.length≤20000∧a.sets.length≤20000) (m:b.sl.length≤20000∧b.sets.length≤20000):HPure Try.prog 10 [stV a,stV b] (boolV (decide (a=b))):=by
 refine ⟨⟨_,_,Try.func10,rfl,by kernel_rfl⟩,fun w F vs hF hr hw=>?_⟩
 obtain ⟨u,v,rfl,hu,hv⟩:=rep2 hr
 obtain ⟨x,rfl,rfl,hx⟩:=stp_of hu
 obtain ⟨y,rfl,rfl,hy⟩:=stp_of hv
 refine (Same25_any x y _ _ w hx hy (Nat.le_refl _) (Nat.le_refl _) (by rw [←hx.1];omega) (by rw [←hy.1];omega) (by rw [←hx.2.1];omega) (by rw [←hy.2.1];omega)).mono ?_
 rintro e w' ⟨rfl,hb⟩
 exact pure_imm hF hb
theorem routeV_nil (p d:Int):routeV [] [] p d=(⟨p,false,false,0,0⟩,0):=rfl
theorem rtok0:RtOk [] []:=⟨fun i h=>absurd h (Nat.not_lt_zero _),fun i k h=>by cases h⟩
def lostV (s:St):Bool:=!s.shape||((s.k == 3||s.k == 4)&&(s.f == s.t))
theorem outN (s:St) (h:s.f≤s.t):outV (routeV [] []) s=s:=by
 have e:(if s.t > s.f then s.t else s.f)=s.t:=by split <;> omega
 show (⟨s.k,s.f,(if s.t > s.f then s.t else s.f),s.gf,s.gt,s.ins,s.mark,s.vl,s.sl,s.sets⟩:St)=s
 rw [e]
theorem kN {s:St} (hs:s.shape=true):kV (routeV [] []) s=(if (s.k=3∨s.k=4)∧s.f=s.t then false else true,s,false):=by
 obtain ⟨q1,q2,q3,q4,q5⟩:=shape_in hs
 rcases kind_in hs with hk | hk | hk | hk
 ·rw [kV1 (by omega) (by omega) (by omega),outN s q2,if_neg (by omega)]
 ·have hg:=gap_in hs hk
  rw [kV2 hk,outN s q2,if_neg (by omega)]
  simp only [routeV_nil]
  simp [hg,St.mv]
 ·rw [kV3 hk,outN s q2]
  show (decide (s.t > s.f),s,false)=_
  by_cases e:s.f=s.t
  ·rw [if_pos ⟨hk,e⟩,decide_eq_false (by omega)]
  ·rw [if_neg (fun h=>e h.2),decide_eq_true (by omega)]
 ·rw [kV5 hk,outN s q2,if_neg (by omega)]
  simp only [routeV_nil]
  have hr:=(rowD_iff (routeV [] []) s.f s.f (s.t - s.f).toNat).2 (fun i hi=>⟨rfl,rfl,rfl⟩)
  rw [hr.1,hr.2]
  have e:s.f+s.t - s.f=s.t:=by omega
  simp only [St.mv,e]
theorem byV_nil (s:St):byV (routeV [] []) s=if lostV s=true then none else some s:=by
 unfold lostV
 by_cases hs:s.shape=true
 ·have hg:¬ gone2 (routeV [] []) s:=by unfold gone2;simp [routeV_nil]
  have hk:=kN hs
  by_cases h:(s.k=3∨s.k=4)∧s.f=s.t
  ·rw [if_pos h] at hk
   rw [byV_no (by rw [hk];simp),if_pos]
   simp [h]
  ·rw [if_neg h] at hk
   rw [byV_yes hs hg (by rw [hk];exact ⟨rfl,rfl,hs⟩),hk,if_neg]
   simp only [hs,Bool.not_true,Bool.false_or,Bool.and_eq_true,Bool.or_eq_true,beq_iff_eq]
   exact h
 ·rw [byV_shape hs,if_pos]
  simp [hs]
theorem fin_ok (s:St):((((byV (routeV [] []) s).isSome == !(lostV s))&&(lostV s||decide ((byV (routeV [] []) s).getD St.none=s)))&&true)=true:=by
 rw [byV_nil]
 cases lostV s <;> simp
def exA:St:=⟨1,5,7,0,0,0,0,0,[],[]⟩
def exB:St:=⟨1,8,10,0,0,0,0,0,[],[]⟩
theorem exA1:overV exA [⟨2,0,3⟩]=some exB:=by decide +kernel
theorem exA2:overV exA [⟨4,9,0⟩]=none:=by decide +kernel
theorem live26_h:HPure Try.prog 17 [] (boolV true):=by
 refine hpure_of Try.func17 rfl kr _ _ _ rfl 36 rfl rfl (fun w F=>?_)
 refine srg fun N h1=>sa<|snl h1<|srg fun N h2=>?_
 refine s0 (hop_build (hs:=[(0,1,_),(1,1,_),(2,1,_)]) st_26 rfl rfl ⟨rfl,rfl,rfl,rfl,rfl,⟨rfl,rfl,rfl,rfl,rfl,⟨rfl,rfl,rfl,rfl,rfl,trivial⟩⟩⟩) ?_
 refine hm_1 1 (hop_alloc (id:=1) (sz:=10) zc_26 rfl rfl omx omx) rfl rfl pre0 rfl rfl (c':=1) rfl ?_
 first
 | refine hm_s1 (hol_storeW ty_26 rfl rfl rfl rfl) rfl rfl (pre1 rfl) (c':=2) rfl ?_
 | refine hm_s1 (hol_store ty_26 rfl rfl rfl rfl (by first | exact Nat.le_of_ble_eq_true rfl | omega | (dsimp only;omega) | (simp <;> omega)) (by first | exact Nat.le_of_ble_eq_true rfl | omega | (dsimp only;omega) | (simp <;> omega)) (by first | exact Nat.le_of_ble_eq_true rfl | omega | (dsimp only;omega) | (simp <;> omega))) rfl rfl (pre1 rfl) (c':=2) rfl ?_
 refine snl h2<|srg fun N h3=>?_
 first
 | refine hq_ 8 (hol_load ty_26 rfl (by first | exact Nat.le_of_ble_eq_true rfl | omega | (dsimp only;omega) | (simp <;> omega)) (by first | exact Nat.le_of_ble_eq_true rfl | omega | (dsimp only;omega) | (simp <;> omega)) (fun h=>(by first | rfl | cases h))) rfl rfl (pre1 rfl) rfl rfl ?_
 | refine hq_ 8 (hop_load_fp ty_26 rfl (by first | exact Nat.le_of_ble_eq_true rfl | omega | (dsimp only;omega) | (simp <;> omega)) (fun h=>(by first | rfl | cases h))) rfl rfl pre0 rfl rfl ?_
 refine s0 (hop_build (hs:=[(0,1,_),(2,1,_)]) st_88 rfl rfl ⟨rfl,rfl,rfl,rfl,rfl,⟨rfl,rfl,rfl,rfl,rfl,trivial⟩⟩) ?_
 refine hm_1 10 (hop_buildSlice (id:=10) (hs:=[_]) ei_48 omx rfl omx ⟨rfl,rfl,rfl,rfl,trivial⟩) rfl rfl pre0 rfl rfl (c':=3) rfl ?_
 refine hm_ 11 (hop_call (xs:=[_,_]) [(10,_)] ((exA1▸over_q exA [⟨2,0,3⟩] ⟨by decide,by decide⟩:HPure Try.prog 26 [stV exA,rgsV [⟨2,0,3⟩]] (optQ (some exB)))) ⟨rfl,⟨rfl,trivial⟩⟩ ⟨(fz_agg10 fzc fzc fzc fzc fzc fzc fzc fzc fzc fzc),⟨(fz_row (l:=[(⟨2,0,3⟩:Rg)]) (enc:=rgF) (d:=default) (List.mem_cons_self ..) rfl rfl (Nat.le_refl _) (fz_rg1 rfl rfl rfl)),trivial⟩⟩ rfl) rfl rfl (preC rfl pre0) rfl rfl (c':=4) rfl ?_
 refine sm ?_
 refine s0 hex ?_
 refine s0 hex ?_
 refine hm_1 2 (hop_alloc (id:=2) (sz:=10) zc_26 rfl rfl omx omx) rfl rfl pre0 rfl rfl (c':=5) rfl ?_
 first
 | refine hm_s1 (hol_storeW ty_26 rfl rfl rfl rfl) rfl rfl (pre1 rfl) (c':=6) rfl ?_
 | refine hm_s1 (hol_store ty_26 rfl rfl rfl rfl (by first | exact Nat.le_of_ble_eq_true rfl | omega | (dsimp only;omega) | (simp <;> omega)) (by first | exact Nat.le_of_ble_eq_true rfl | omega | (dsimp only;omega) | (simp <;> omega)) (by first | exact Nat.le_of_ble_eq_true rfl | omega | (dsimp only;omega) | (simp <;> omega))) rfl rfl (pre1 rfl) (c':=6) rfl ?_
 refine sa<|snl h3<|srg fun N h4=>?_
 first
 | refine hq_ 15 (hol_load ty_26 rfl (by first | exact Nat.le_of_ble_eq_true rfl | omega | (dsimp only;omega) | (simp <;> omega)) (by first | exact Nat.le_of_ble_eq_true rfl | omega | (dsimp only;omega) | (simp <;> omega)) (fun h=>(by first | rfl | cases h))) rfl rfl (pre1 rfl) rfl rfl ?_
 | refine hq_ 15 (hop_load_fp ty_26 rfl (by first | exact Nat.le_of_ble_eq_true rfl | omega | (dsimp only;omega) | (simp <;> omega)) (fun h=>(by first | rfl | cases h))) rfl rfl pre0 rfl rfl ?_
 refine s0 (hop_build (hs:=[(0,1,_),(1,1,_)]) st_88 rfl rfl ⟨rfl,rfl,rfl,rfl,rfl,⟨rfl,rfl,rfl,rfl,rfl,trivial⟩⟩) ?_
 refine hm_1 17 (hop_buildSlice (id:=17) (hs:=[_]) ei_48 omx rfl omx ⟨rfl,rfl,rfl,rfl,trivial⟩) rfl rfl pre0 rfl rfl (c':=7) rfl ?_
 refine hm_ 18 (hop_call (xs:=[_,_]) [(17,_)] ((exA2▸over_q exA [⟨4,9,0⟩] ⟨by decide,by decide⟩:HPure Try.prog 26 [stV exA,rgsV [⟨4,9,0⟩]] (optQ none))) ⟨rfl,⟨rfl,trivial⟩⟩ ⟨(fz_agg10 fzc fzc fzc fzc fzc fzc fzc fzc fzc fzc),⟨(fz_row (l:=[(⟨4,9,0⟩:Rg)]) (enc:=rgF) (d:=default) (List.mem_cons_self ..) rfl rfl (Nat.le_refl _) (fz_rg1 rfl rfl rfl)),trivial⟩⟩ rfl) rfl rfl (preC rfl pre0) rfl rfl (c':=8) rfl ?_
 refine sm ?_
 refine s0 hex ?_
 refine s0 hex ?_
 refine hm_1 4 (hop_alloc (id:=4) (sz:=10) zc_26 rfl rfl omx omx) rfl rfl pre0 rfl rfl (c':=9) rfl ?_
 first
 | refine hm_s1 (hol_storeW ty_26 rfl rfl rfl rfl) rfl rfl (pre1 rfl) (c':=10) rfl ?_
 | refine hm_s1 (hol_store ty_26 rfl rfl rfl rfl (by first | exact Nat.le_of_ble_eq_true rfl | omega | (dsimp only;omega) | (simp <;> omega)) (by first | exact Nat.le_of_ble_eq_true rfl | omega | (dsimp only;omega) | (simp <;> omega)) (by first | exact Nat.le_of_ble_eq_true rfl | omega | (dsimp only;omega) | (simp <;> omega))) rfl rfl (pre1 rfl) (c':=10) rfl ?_
 refine sa<|snl h4<|srg fun N h5=>sm<|sm ?_
 first
 | refine stg 22 (fun hb=>hop_fa fd_26_1 rfl) rfl rfl rfl rfl rfl ?_
 | refine sth 22 (fun hb=>hop_fa fd_26_1 rfl) rfl rfl rfl rfl rfl ?_
 | refine stg 22 (fun hb=>hop_fa_fp fd_26_1 rfl (by first | exact Nat.le_of_ble_eq_true rfl | (simp at hb;first | omega | (dsimp only;omega) | (simp <;> omega)) | omega | (dsimp only;omega))) rfl rfl rfl rfl rfl ?_
 | refine sth 22 (fun hb=>hop_fa_fp fd_26_1 rfl (by first | exact Nat.le_of_ble_eq_true rfl | (simp at hb;first | omega | (dsimp only;omega) | (simp <;> omega)) | omega | (dsimp only;omega))) rfl rfl rfl rfl rfl ?_
 first
 | refine hq_g 24 1 22 true _ (fun hb=>HOp.val (v':=intV 8) (hol_load ty_3 rfl (by first | exact Nat.le_of_ble_eq_true rfl | (simp at hb;first | omega | (dsimp only;omega) | (simp <;> omega)) | omega | (dsimp only;omega)) (by first | exact Nat.le_of_ble_eq_true rfl | (simp at hb;first | omega | (dsimp only;omega) | (simp <;> omega)) | omega | (dsimp only;omega)) (fun h=>(by first | rfl | cases h))) (rfl)) rfl rfl rfl rfl (pre1 rfl) rfl rfl rfl ?_
 | refine hq_g2 24 1 22 _ _ true _ (fun hb=>HOp.val (v':=intV 8) (hol_load ty_3 rfl (by first | exact Nat.le_of_ble_eq_true rfl | (simp at hb;first | omega | (dsimp only;omega) | (simp <;> omega)) | omega | (dsimp only;omega)) (by first | exact Nat.le_of_ble_eq_true rfl | (simp at hb;first | omega | (dsimp only;omega) | (simp <;> omega)) | omega | (dsimp only;omega)) (fun h=>(by first | rfl | cases h))) (rfl)) rfl rfl rfl rfl (pre1 rfl) rfl rfl rfl ?_
 | refine stg 22 (fun hb=>HOp.val (v':=intV 8) (hop_load_fp ty_3 rfl (by first | exact Nat.le_of_ble_eq_true rfl | (simp at hb;first | omega | (dsimp only;omega) | (simp <;> omega)) | omega | (dsimp only;omega)) (fun h=>(by first | rfl | cases h))) (rfl)) rfl rfl rfl rfl rfl ?_
 | refine sth 22 (fun hb=>HOp.val (v':=intV 8) (hop_load_fp ty_3 rfl (by first | exact Nat.le_of_ble_eq_true rfl | (simp at hb;first | omega | (dsimp only;omega) | (simp <;> omega)) | omega | (dsimp only;omega)) (fun h=>(by first | rfl | cases h))) (rfl)) rfl rfl rfl rfl rfl ?_
 first
 | refine stg 22 (fun hb=>hop_eql rfl rfl) rfl rfl rfl rfl rfl ?_
 | refine sth 22 (fun hb=>hop_eql rfl rfl) rfl rfl rfl rfl rfl ?_
 first
 | refine hq_p 26 (hstep_and _ _ rfl rfl rfl) rfl rfl rfl ?_
 | refine hq_p 26 (hstep_or _ _ rfl rfl rfl) rfl rfl rfl ?_
 | refine hq_p 26 (hstep_ite _ _ _ rfl rfl rfl) rfl rfl rfl ?_
 | refine hq_p 26 (hstep_pick _ _ _ _ rfl rfl rfl (fun _=>.refl _) (fun _=>.refl _)) rfl rfl rfl ?_
 refine sm ?_
 first
 | refine stg 27 (fun hb=>hop_fa fd_26_2 rfl) rfl rfl rfl rfl rfl ?_
 | refine sth 27 (fun hb=>hop_fa fd_26_2 rfl) rfl rfl rfl rfl rfl ?_
 | refine stg 27 (fun hb=>hop_fa_fp fd_26_2 rfl (by first | exact Nat.le_of_ble_eq_true rfl | (simp at hb;first | omega | (dsimp only;omega) | (simp <;> omega)) | omega | (dsimp only;omega))) rfl rfl rfl rfl rfl ?_
 | refine sth 27 (fun hb=>hop_fa_fp fd_26_2 rfl (by first | exact Nat.le_of_ble_eq_true rfl | (simp at hb;first | omega | (dsimp only;omega) | (simp <;> omega)) | omega | (dsimp only;omega))) rfl rfl rfl rfl rfl ?_
 first
 | refine hq_g 29 6 27 true _ (fun hb=>HOp.val (v':=intV 10) (hol_load ty_3 rfl (by first | exact Nat.le_of_ble_eq_true rfl | (simp at hb;first | omega | (dsimp only;omega) | (simp <;> omega)) | omega | (dsimp only;omega)) (by first | exact Nat.le_of_ble_eq_true rfl | (simp at hb;first | omega | (dsimp only;omega) | (simp <;> omega)) | omega | (dsimp only;omega)) (fun h=>(by first | rfl | cases h))) (rfl)) rfl rfl rfl rfl (pre1 rfl) rfl rfl rfl ?_
 | refine hq_g2 29 6 27 _ _ true _ (fun hb=>HOp.val (v':=intV 10) (hol_load ty_3 rfl (by first | exact Nat.le_of_ble_eq_true rfl | (simp at hb;first | omega | (dsimp only;omega) | (simp <;> omega)) | omega | (dsimp only;omega)) (by first | exact Nat.le_of_ble_eq_true rfl | (simp at hb;first | omega | (dsimp only;omega) | (simp <;> omega)) | omega | (dsimp only;omega)) (fun h=>(by first | rfl | cases h))) (rfl)) rfl rfl rfl rfl (pre1 rfl) rfl rfl rfl ?_
 | refine stg 27 (fun hb=>HOp.val (v':=intV 10) (hop_load_fp ty_3 rfl (by first | exact Nat.le_of_ble_eq_true rfl | (simp at hb;first | omega | (dsimp only;omega) | (simp <;> omega)) | omega | (dsimp only;omega)) (fun h=>(by first | rfl | cases h))) (rfl)) rfl rfl rfl rfl rfl ?_
 | refine sth 27 (fun hb=>HOp.val (v':=intV 10) (hop_load_fp ty_3 rfl (by first | exact Nat.le_of_ble_eq_true rfl | (simp at hb;first | omega | (dsimp only;omega) | (simp <;> omega)) | omega | (dsimp only;omega)) (fun h=>(by first | rfl | cases h))) (rfl)) rfl rfl rfl rfl rfl ?_
 first
 | refine stg 27 (fun hb=>hop_eql rfl rfl) rfl rfl rfl rfl rfl ?_
 | refine sth 27 (fun hb=>hop_eql rfl rfl) rfl rfl rfl rfl rfl ?_
 first
 | refine hq_p 31 (hstep_and _ _ rfl rfl rfl) rfl rfl rfl ?_
 | refine hq_p 31 (hstep_or _ _ rfl rfl rfl) rfl rfl rfl ?_
 | refine hq_p 31 (hstep_ite _ _ _ rfl rfl rfl) rfl rfl rfl ?_
 | refine hq_p 31 (hstep_pick _ _ _ _ rfl rfl rfl (fun _=>.refl _) (fun _=>.refl _)) rfl rfl rfl ?_
 refine sm ?_
 first
 | refine stg 32 (fun hb=>hop_move rfl) rfl rfl rfl rfl rfl ?_
 | refine sth 32 (fun hb=>hop_move rfl) rfl rfl rfl rfl rfl ?_
 first
 | refine stg 32 (fun hb=>hop_not rfl) rfl rfl rfl rfl rfl ?_
 | refine sth 32 (fun hb=>hop_not rfl) rfl rfl rfl rfl rfl ?_
 first
 | refine hq_p 35 (hstep_and _ _ rfl rfl rfl) rfl rfl rfl ?_
 | refine hq_p 35 (hstep_or _ _ rfl rfl rfl) rfl rfl rfl ?_
 | refine hq_p 35 (hstep_ite _ _ _ rfl rfl rfl) rfl rfl rfl ?_
 | refine hq_p 35 (hstep_pick _ _ _ _ rfl rfl rfl (fun _=>.refl _) (fun _=>.refl _)) rfl rfl rfl ?_
 refine sa ?_
 refine nu ?_
 refine h5 _<|hw_ret ?_
 refine hq_ret1 rfl (rval_tmp rfl) [] rfl pre0 ?_
 exact .imm _
theorem shiftOver_h (s a:St) (m:List Rg):HPure Try.prog 5 [stV s,stV a,rgsV m] (boolV true):=by
 refine hpure_of Try.func5 rfl kr _ _ _ rfl 120 rfl rfl (fun w F=>?_)
 refine srg fun N h1=>?_
 refine hm_1 3 (hop_box (id:=3) (sz:=10) rfl rfl rfl omx omx) rfl rfl pre0 rfl rfl (c':=1) rfl ?_
 refine hm_1 4 (hop_box (id:=4) (sz:=10) rfl rfl rfl omx omx) rfl rfl pre0 rfl rfl (c':=2) rfl ?_
 refine sa<|snl h1<|hw_seq fun Nh2 h2=>srg fun N h3=>?_
 first
 | refine hq_ 18 (hol_load ty_26 rfl (by first | exact Nat.le_of_ble_eq_true rfl | omega | (dsimp only;omega) | (simp <;> omega)) (by first | exact Nat.le_of_ble_eq_true rfl | omega | (dsimp only;omega) | (simp <;> omega)) (fun h=>(by first | rfl | cases h))) rfl rfl (pre1 rfl) rfl rfl ?_
 | refine hq_ 18 (hop_load_fp ty_26 rfl (by first | exact Nat.le_of_ble_eq_true rfl | omega | (dsimp only;omega) | (simp <;> omega)) (fun h=>(by first | rfl | cases h))) rfl rfl pre0 rfl rfl ?_
 refine s0 (hop_call0 (xs:=[_]) (Few25h s) ⟨rfl,trivial⟩ ⟨fe,trivial⟩) ?_
 refine s0 (hop_not rfl) ?_
 refine sm ?_
 first
 | refine hq_g 22 3 21 false _ (fun hb=>hol_load ty_26 rfl (by first | exact Nat.le_of_ble_eq_true rfl | (simp at hb;first | omega | (dsimp only;omega) | (simp <;> omega)) | omega | (dsimp only;omega)) (by first | exact Nat.le_of_ble_eq_true rfl | (simp at hb;first | omega | (dsimp only;omega) | (simp <;> omega)) | omega | (dsimp only;omega)) (fun h=>(by first | rfl | cases h))) rfl rfl rfl rfl (pre1 rfl) rfl rfl rfl ?_
 | refine hq_g2 22 3 21 _ _ false _ (fun hb=>hol_load ty_26 rfl (by first | exact Nat.le_of_ble_eq_true rfl | (simp at hb;first | omega | (dsimp only;omega) | (simp <;> omega)) | omega | (dsimp only;omega)) (by first | exact Nat.le_of_ble_eq_true rfl | (simp at hb;first | omega | (dsimp only;omega) | (simp <;> omega)) | omega | (dsimp only;omega)) (fun h=>(by first | rfl | cases h))) rfl rfl rfl rfl (pre1 rfl) rfl rfl rfl ?_
 | refine stg 21 (fun hb=>hop_load_fp ty_26 rfl (by first | exact Nat.le_of_ble_eq_true rfl | (simp at hb;first | omega | (dsimp only;omega) | (simp <;> omega)) | omega | (dsimp only;omega)) (fun h=>(by first | rfl | cases h))) rfl rfl rfl rfl rfl ?_
 | refine sth 21 (fun hb=>hop_load_fp ty_26 rfl (by first | exact Nat.le_of_ble_eq_true rfl | (simp at hb;first | omega | (dsimp only;omega) | (simp <;> omega)) | omega | (dsimp only;omega)) (fun h=>(by first | rfl | cases h))) rfl rfl rfl rfl rfl ?_
 first
 | refine stg 21 (fun hb=>hop_call0 (xs:=[_]) (Few25h a) ⟨rfl,trivial⟩ ⟨(Fz.eq rfl),trivial⟩) rfl rfl rfl rfl rfl ?_
 | refine sth 21 (fun hb=>hop_call0 (xs:=[_]) (Few25h a) ⟨rfl,trivial⟩ ⟨(Fz.eq rfl),trivial⟩) rfl rfl rfl rfl rfl ?_
 first
 | refine stg 21 (fun hb=>hop_not rfl) rfl rfl rfl rfl rfl ?_
 | refine sth 21 (fun hb=>hop_not rfl) rfl rfl rfl rfl rfl ?_
 first
 | refine hq_p 25 (hstep_and _ _ rfl rfl rfl) rfl rfl rfl ?_
 | refine hq_p 25 (hstep_or _ _ rfl rfl rfl) rfl rfl rfl ?_
 | refine hq_p 25 (hstep_ite _ _ _ rfl rfl rfl) rfl rfl rfl ?_
 | refine hq_p 25 (hstep_pick _ _ _ _ rfl rfl rfl (fun _=>.refl _) (fun _=>.refl _)) rfl rfl rfl ?_
 refine sm ?_
 first
 | refine stg 26 (fun hb=>hop_move rfl) rfl rfl rfl rfl rfl ?_
 | refine sth 26 (fun hb=>hop_move rfl) rfl rfl rfl rfl rfl ?_
 first
 | refine stg 26 (fun hb=>hop_len_sl (T:=48) rfl (elOf_spec el_48).1 rfl) rfl rfl rfl rfl rfl ?_
 | refine sth 26 (fun hb=>hop_len_sl (T:=48) rfl (elOf_spec el_48).1 rfl) rfl rfl rfl rfl rfl ?_
 | refine stg 26 (fun hb=>hop_len_os (T:=48) rfl (elOf_spec el_48).1 rfl) rfl rfl rfl rfl rfl ?_
 | refine sth 26 (fun hb=>hop_len_os (T:=48) rfl (elOf_spec el_48).1 rfl) rfl rfl rfl rfl rfl ?_
 | refine stg 26 (fun hb=>hop_len_nil (T:=48) rfl (elOf_spec el_48).1 rfl) rfl rfl rfl rfl rfl ?_
 | refine sth 26 (fun hb=>hop_len_nil (T:=48) rfl (elOf_spec el_48).1 rfl) rfl rfl rfl rfl rfl ?_
 first
 | refine stg 26 (fun hb=>hop_gtr rfl rfl) rfl rfl rfl rfl rfl ?_
 | refine sth 26 (fun hb=>hop_gtr rfl rfl) rfl rfl rfl rfl rfl ?_
 first
 | refine hq_p 30 (hstep_and _ _ rfl rfl rfl) rfl rfl rfl ?_
 | refine hq_p 30 (hstep_or _ _ rfl rfl rfl) rfl rfl rfl ?_
 | refine hq_p 30 (hstep_ite _ _ _ rfl rfl rfl) rfl rfl rfl ?_
 | refine hq_p 30 (hstep_pick _ _ _ _ rfl rfl rfl (fun _=>.refl _) (fun _=>.refl _)) rfl rfl rfl ?_
 refine nu ?_
 refine h3 _ ?_
 refine wc (fun hc0=>?_) (fun hc0=>?_)
 ·have hr0:=hc0;(try simp only [hcs,Int.reduceToNat] at hc0)
  refine srg fun N h4=>?_
  refine s0 (hop_call0 (xs:=[]) (live26_h) trivial trivial) ?_
  refine sa<|snl h4<|hw_ret<|hq_then_ret ?_
  refine hq_ret1 rfl (rval_tmp rfl) [] rfl pre0 ?_
  exact Frz.fz
 have hr0:=hc0;(try simp only [hcs,Int.reduceToNat] at hc0)
 have hl:(s.sl.length≤20000∧s.sets.length≤20000)∧(a.sl.length≤20000∧a.sets.length≤20000)∧m.length≤20:=(by have h9:=hr0;simp at h9;omega);obtain ⟨ls,la,lm⟩:=hl;have lo:=over_len s m ls;have lp:=past_len s a ls
 refine hw_skip<|h2 _<|srg fun N h5=>?_
 first
 | refine hq_ 33 (hol_load ty_26 rfl (by first | exact Nat.le_of_ble_eq_true rfl | omega | (dsimp only;omega) | (simp <;> omega)) (by first | exact Nat.le_of_ble_eq_true rfl | omega | (dsimp only;omega) | (simp <;> omega)) (fun h=>(by first | rfl | cases h))) rfl rfl (pre1 rfl) rfl rfl ?_
 | refine hq_ 33 (hop_load_fp ty_26 rfl (by first | exact Nat.le_of_ble_eq_true rfl | omega | (dsimp only;omega) | (simp <;> omega)) (fun h=>(by first | rfl | cases h))) rfl rfl pre0 rfl rfl ?_
 refine sm ?_
 refine s0 (hop_call0 (xs:=[_,_]) (over_q s m ls) ⟨rfl,⟨rfl,trivial⟩⟩ ⟨fe,⟨fe,trivial⟩⟩) ?_
 refine sm ?_
 refine s0 hex ?_
 refine s0 hex ?_
 refine hm_1 7 (hop_alloc (id:=7) (sz:=10) zc_26 rfl rfl omx omx) rfl rfl pre0 rfl rfl (c':=3) rfl ?_
 first
 | refine hm_s1 (hol_storeW ty_26 rfl rfl rfl rfl) rfl rfl (pre1 rfl) (c':=4) rfl ?_
 | refine hm_s1 (hol_store ty_26 rfl rfl rfl rfl (by first | exact Nat.le_of_ble_eq_true rfl | omega | (dsimp only;omega) | (simp <;> omega)) (by first | exact Nat.le_of_ble_eq_true rfl | omega | (dsimp only;omega) | (simp <;> omega)) (by first | exact Nat.le_of_ble_eq_true rfl | omega | (dsimp only;omega) | (simp <;> omega))) rfl rfl (pre1 rfl) (c':=4) rfl ?_
 refine sa<|snl h5<|srg fun N h6=>?_
 first
 | refine hq_ 39 (hol_load ty_26 rfl (by first | exact Nat.le_of_ble_eq_true rfl | omega | (dsimp only;omega) | (simp <;> omega)) (by first | exact Nat.le_of_ble_eq_true rfl | omega | (dsimp only;omega) | (simp <;> omega)) (fun h=>(by first | rfl | cases h))) rfl rfl (pre1 rfl) rfl rfl ?_
 | refine hq_ 39 (hop_load_fp ty_26 rfl (by first | exact Nat.le_of_ble_eq_true rfl | omega | (dsimp only;omega) | (simp <;> omega)) (fun h=>(by first | rfl | cases h))) rfl rfl pre0 rfl rfl ?_
 refine sm ?_
 refine s0 (hop_call0 (xs:=[_,_]) (over26_q s m ls rfl) ⟨rfl,⟨rfl,trivial⟩⟩ ⟨fe,⟨fe,trivial⟩⟩) ?_
 refine sm ?_
 refine s0 hex ?_
 refine s0 hex ?_
 refine hm_1 9 (hop_alloc (id:=9) (sz:=10) zc_26 rfl rfl omx omx) rfl rfl pre0 rfl rfl (c':=5) rfl ?_
 first
 | refine hm_s1 (hol_storeW ty_26 rfl rfl rfl rfl) rfl rfl (pre1 rfl) (c':=6) rfl ?_
 | refine hm_s1 (hol_store ty_26 rfl rfl rfl rfl (by first | exact Nat.le_of_ble_eq_true rfl | omega | (dsimp only;omega) | (simp <;> omega)) (by first | exact Nat.le_of_ble_eq_true rfl | omega | (dsimp only;omega) | (simp <;> omega)) (by first | exact Nat.le_of_ble_eq_true rfl | omega | (dsimp only;omega) | (simp <;> omega))) rfl rfl (pre1 rfl) (c':=6) rfl ?_
 refine sa<|snl h6<|hw_seq fun Nh7 h7=>srg fun N h8=>sm<|sm ?_
 refine s0 (hop_bne (fun w=>by kernel_rfl) rfl rfl) ?_
 refine sm ?_
 first
 | refine hq_g 48 3 47 false _ (fun hb=>hol_load ty_26 rfl (by first | exact Nat.le_of_ble_eq_true rfl | (simp at hb;first | omega | (dsimp only;omega) | (simp <;> omega)) | omega | (dsimp only;omega)) (by first | exact Nat.le_of_ble_eq_true rfl | (simp at hb;first | omega | (dsimp only;omega) | (simp <;> omega)) | omega | (dsimp only;omega)) (fun h=>(by first | rfl | cases h))) rfl rfl rfl rfl (pre1 rfl) rfl rfl rfl ?_
 | refine hq_g2 48 3 47 _ _ false _ (fun hb=>hol_load ty_26 rfl (by first | exact Nat.le_of_ble_eq_true rfl | (simp at hb;first | omega | (dsimp only;omega) | (simp <;> omega)) | omega | (dsimp only;omega)) (by first | exact Nat.le_of_ble_eq_true rfl | (simp at hb;first | omega | (dsimp only;omega) | (simp <;> omega)) | omega | (dsimp only;omega)) (fun h=>(by first | rfl | cases h))) rfl rfl rfl rfl (pre1 rfl) rfl rfl rfl ?_
 | refine stg 47 (fun hb=>hop_load_fp ty_26 rfl (by first | exact Nat.le_of_ble_eq_true rfl | (simp at hb;first | omega | (dsimp only;omega) | (simp <;> omega)) | omega | (dsimp only;omega)) (fun h=>(by first | rfl | cases h))) rfl rfl rfl rfl rfl ?_
 | refine sth 47 (fun hb=>hop_load_fp ty_26 rfl (by first | exact Nat.le_of_ble_eq_true rfl | (simp at hb;first | omega | (dsimp only;omega) | (simp <;> omega)) | omega | (dsimp only;omega)) (fun h=>(by first | rfl | cases h))) rfl rfl rfl rfl rfl ?_
 first
 | refine hq_g 49 3 47 false _ (fun hb=>hol_load ty_26 rfl (by first | exact Nat.le_of_ble_eq_true rfl | (simp at hb;first | omega | (dsimp only;omega) | (simp <;> omega)) | omega | (dsimp only;omega)) (by first | exact Nat.le_of_ble_eq_true rfl | (simp at hb;first | omega | (dsimp only;omega) | (simp <;> omega)) | omega | (dsimp only;omega)) (fun h=>(by first | rfl | cases h))) rfl rfl rfl rfl (pre1 rfl) rfl rfl rfl ?_
 | refine hq_g2 49 3 47 _ _ false _ (fun hb=>hol_load ty_26 rfl (by first | exact Nat.le_of_ble_eq_true rfl | (simp at hb;first | omega | (dsimp only;omega) | (simp <;> omega)) | omega | (dsimp only;omega)) (by first | exact Nat.le_of_ble_eq_true rfl | (simp at hb;first | omega | (dsimp only;omega) | (simp <;> omega)) | omega | (dsimp only;omega)) (fun h=>(by first | rfl | cases h))) rfl rfl rfl rfl (pre1 rfl) rfl rfl rfl ?_
 | refine stg 47 (fun hb=>hop_load_fp ty_26 rfl (by first | exact Nat.le_of_ble_eq_true rfl | (simp at hb;first | omega | (dsimp only;omega) | (simp <;> omega)) | omega | (dsimp only;omega)) (fun h=>(by first | rfl | cases h))) rfl rfl rfl rfl rfl ?_
 | refine sth 47 (fun hb=>hop_load_fp ty_26 rfl (by first | exact Nat.le_of_ble_eq_true rfl | (simp at hb;first | omega | (dsimp only;omega) | (simp <;> omega)) | omega | (dsimp only;omega)) (fun h=>(by first | rfl | cases h))) rfl rfl rfl rfl rfl ?_
 first
 | refine stg 47 (fun hb=>hop_call0 (xs:=[_,_]) (same25q_h ((overV s m).getD St.none) ((overV s m).getD St.none) lo lo) ⟨rfl,⟨rfl,trivial⟩⟩ ⟨(Fz.eq rfl),⟨(Fz.eq rfl),trivial⟩⟩) rfl rfl rfl rfl rfl ?_
 | refine sth 47 (fun hb=>hop_call0 (xs:=[_,_]) (same25q_h ((overV s m).getD St.none) ((overV s m).getD St.none) lo lo) ⟨rfl,⟨rfl,trivial⟩⟩ ⟨(Fz.eq rfl),⟨(Fz.eq rfl),trivial⟩⟩) rfl rfl rfl rfl rfl ?_
 first
 | refine stg 47 (fun hb=>hop_not rfl) rfl rfl rfl rfl rfl ?_
 | refine sth 47 (fun hb=>hop_not rfl) rfl rfl rfl rfl rfl ?_
 first
 | refine hq_p 52 (hstep_and _ _ rfl rfl rfl) rfl rfl rfl ?_
 | refine hq_p 52 (hstep_or _ _ rfl rfl rfl) rfl rfl rfl ?_
 | refine hq_p 52 (hstep_ite _ _ _ rfl rfl rfl) rfl rfl rfl ?_
 | refine hq_p 52 (hstep_pick _ _ _ _ rfl rfl rfl (fun _=>.refl _) (fun _=>.refl _)) rfl rfl rfl ?_
 refine nu ?_
 refine h8 _ ?_
 refine wc (fun hc1=>?_) (fun hc1=>?_)
 ·have hr1:=hc1;(try simp only [hcs,Int.reduceToNat] at hc1)
  exfalso;simp at hr1
 have hr1:=hc1;(try simp only [hcs,Int.reduceToNat] at hc1)
 refine hw_skip<|h7 _<|srg fun N h9=>?_
 first
 | refine hq_ 54 (hol_load ty_26 rfl (by first | exact Nat.le_of_ble_eq_true rfl | omega | (dsimp only;omega) | (simp <;> omega)) (by first | exact Nat.le_of_ble_eq_true rfl | omega | (dsimp only;omega) | (simp <;> omega)) (fun h=>(by first | rfl | cases h))) rfl rfl (pre1 rfl) rfl rfl ?_
 | refine hq_ 54 (hop_load_fp ty_26 rfl (by first | exact Nat.le_of_ble_eq_true rfl | omega | (dsimp only;omega) | (simp <;> omega)) (fun h=>(by first | rfl | cases h))) rfl rfl pre0 rfl rfl ?_
 first
 | refine hq_ 55 (hol_load ty_26 rfl (by first | exact Nat.le_of_ble_eq_true rfl | omega | (dsimp only;omega) | (simp <;> omega)) (by first | exact Nat.le_of_ble_eq_true rfl | omega | (dsimp only;omega) | (simp <;> omega)) (fun h=>(by first | rfl | cases h))) rfl rfl (pre1 rfl) rfl rfl ?_
 | refine hq_ 55 (hop_load_fp ty_26 rfl (by first | exact Nat.le_of_ble_eq_true rfl | omega | (dsimp only;omega) | (simp <;> omega)) (fun h=>(by first | rfl | cases h))) rfl rfl pre0 rfl rfl ?_
 refine s0 (hop_call0 (xs:=[_,_]) (past_q s a ls la) ⟨rfl,⟨rfl,trivial⟩⟩ ⟨fe,⟨fe,trivial⟩⟩) ?_
 refine sm ?_
 refine s0 hex ?_
 refine s0 hex ?_
 refine hm_1 11 (hop_alloc (id:=11) (sz:=10) zc_26 rfl rfl omx omx) rfl rfl pre0 rfl rfl (c':=7) rfl ?_
 first
 | refine hm_s1 (hol_storeW ty_26 rfl rfl rfl rfl) rfl rfl (pre1 rfl) (c':=8) rfl ?_
 | refine hm_s1 (hol_store ty_26 rfl rfl rfl rfl (by first | exact Nat.le_of_ble_eq_true rfl | omega | (dsimp only;omega) | (simp <;> omega)) (by first | exact Nat.le_of_ble_eq_true rfl | omega | (dsimp only;omega) | (simp <;> omega)) (by first | exact Nat.le_of_ble_eq_true rfl | omega | (dsimp only;omega) | (simp <;> omega))) rfl rfl (pre1 rfl) (c':=8) rfl ?_
 refine sa<|snl h9<|srg fun N h10=>?_
 refine s0 (hop_build (hs:=[]) st_26 rfl rfl trivial) ?_
 refine hm_1 13 (hop_alloc (id:=13) (sz:=10) zc_26 rfl rfl omx omx) rfl rfl pre0 rfl rfl (c':=9) rfl ?_
 first
 | refine hm_s1 (hol_storeW ty_26 rfl rfl rfl rfl) rfl rfl (pre1 rfl) (c':=10) rfl ?_
 | refine hm_s1 (hol_store ty_26 rfl rfl rfl rfl (by first | exact Nat.le_of_ble_eq_true rfl | omega | (dsimp only;omega) | (simp <;> omega)) (by first | exact Nat.le_of_ble_eq_true rfl | omega | (dsimp only;omega) | (simp <;> omega)) (by first | exact Nat.le_of_ble_eq_true rfl | omega | (dsimp only;omega) | (simp <;> omega))) rfl rfl (pre1 rfl) (c':=10) rfl ?_
 refine sa<|snl h10<|hw_seq fun Nh11 h11=>srg fun N h12=>?_
 first
 | refine hq_ 60 (hol_load ty_26 rfl (by first | exact Nat.le_of_ble_eq_true rfl | omega | (dsimp only;omega) | (simp <;> omega)) (by first | exact Nat.le_of_ble_eq_true rfl | omega | (dsimp only;omega) | (simp <;> omega)) (fun h=>(by first | rfl | cases h))) rfl rfl (pre1 rfl) rfl rfl ?_
 | refine hq_ 60 (hop_load_fp ty_26 rfl (by first | exact Nat.le_of_ble_eq_true rfl | omega | (dsimp only;omega) | (simp <;> omega)) (fun h=>(by first | rfl | cases h))) rfl rfl pre0 rfl rfl ?_
 refine s0 (hop_call0 (xs:=[_]) (shape25_h a om om) ⟨rfl,trivial⟩ ⟨fe,trivial⟩) ?_
 refine snl h12 ?_
 refine wc (fun hc2=>?_) (fun hc2=>?_)
 ·have hr2:=hc2;(try simp only [hcs,Int.reduceToNat] at hc2)
  have ha:a.shape=true:=hc2;have hp:overV s (mapV a)=pastV s a:=(if_pos ha).symm
  refine hd_start ?_
  first
  | refine hd_q 63 (hol_load ty_26 rfl (by first | exact Nat.le_of_ble_eq_true rfl | omega | (dsimp only;omega) | (simp <;> omega)) (by first | exact Nat.le_of_ble_eq_true rfl | omega | (dsimp only;omega) | (simp <;> omega)) (fun h=>(by first | rfl | cases h))) rfl rfl (pre1 rfl) rfl rfl (k':=1) rfl ?_
  | refine hd_q 63 (hop_load_fp ty_26 rfl (by first | exact Nat.le_of_ble_eq_true rfl | omega | (dsimp only;omega) | (simp <;> omega)) (fun h=>(by first | rfl | cases h))) rfl rfl pre0 rfl rfl (k':=1) rfl ?_
  first
  | refine hd_q 64 (hol_load ty_26 rfl (by first | exact Nat.le_of_ble_eq_true rfl | omega | (dsimp only;omega) | (simp <;> omega)) (by first | exact Nat.le_of_ble_eq_true rfl | omega | (dsimp only;omega) | (simp <;> omega)) (fun h=>(by first | rfl | cases h))) rfl rfl (pre1 rfl) rfl rfl (k':=2) rfl ?_
  | refine hd_q 64 (hop_load_fp ty_26 rfl (by first | exact Nat.le_of_ble_eq_true rfl | omega | (dsimp only;omega) | (simp <;> omega)) (fun h=>(by first | rfl | cases h))) rfl rfl pre0 rfl rfl (k':=2) rfl ?_
  refine d0 3 (hop_call0 (xs:=[_]) (map25_h a ha) ⟨rfl,trivial⟩ ⟨fe,trivial⟩) ?_
  refine d0 4 (hop_call0 (xs:=[_,_]) (over26_q s (mapV a) ls hp) ⟨rfl,⟨rfl,trivial⟩⟩ ⟨fe,⟨fe,trivial⟩⟩) ?_
  refine dm 5 ?_
  refine d0 6 hex ?_
  refine d0 7 hex ?_
  first
  | refine hd_s1 (hol_storeW ty_26 rfl rfl rfl rfl) rfl rfl (pre1 rfl) (k':=8) rfl ?_
  | refine hd_s1 (hol_store ty_26 rfl rfl rfl rfl (by first | exact Nat.le_of_ble_eq_true rfl | omega | (dsimp only;omega) | (simp <;> omega)) (by first | exact Nat.le_of_ble_eq_true rfl | omega | (dsimp only;omega) | (simp <;> omega)) (by first | exact Nat.le_of_ble_eq_true rfl | omega | (dsimp only;omega) | (simp <;> omega))) rfl rfl (pre1 rfl) (k':=8) rfl ?_
  refine d0 9 (hop_assign rfl) ?_
  refine hd_nil kr kr (c':=19) rfl ?_
  refine h11 _<|hw_seq fun Nh13 h13=>srg fun N h14=>sm<|sm ?_
  refine s0 (hop_bne (fun w=>by kernel_rfl) rfl rfl) ?_
  refine sm ?_
  first
  | refine hq_g 73 3 72 false _ (fun hb=>hol_load ty_26 rfl (by first | exact Nat.le_of_ble_eq_true rfl | (simp at hb;first | omega | (dsimp only;omega) | (simp <;> omega)) | omega | (dsimp only;omega)) (by first | exact Nat.le_of_ble_eq_true rfl | (simp at hb;first | omega | (dsimp only;omega) | (simp <;> omega)) | omega | (dsimp only;omega)) (fun h=>(by first | rfl | cases h))) rfl rfl rfl rfl (pre1 rfl) rfl rfl rfl ?_
  | refine hq_g2 73 3 72 _ _ false _ (fun hb=>hol_load ty_26 rfl (by first | exact Nat.le_of_ble_eq_true rfl | (simp at hb;first | omega | (dsimp only;omega) | (simp <;> omega)) | omega | (dsimp only;omega)) (by first | exact Nat.le_of_ble_eq_true rfl | (simp at hb;first | omega | (dsimp only;omega) | (simp <;> omega)) | omega | (dsimp only;omega)) (fun h=>(by first | rfl | cases h))) rfl rfl rfl rfl (pre1 rfl) rfl rfl rfl ?_
  | refine stg 72 (fun hb=>hop_load_fp ty_26 rfl (by first | exact Nat.le_of_ble_eq_true rfl | (simp at hb;first | omega | (dsimp only;omega) | (simp <;> omega)) | omega | (dsimp only;omega)) (fun h=>(by first | rfl | cases h))) rfl rfl rfl rfl rfl ?_
  | refine sth 72 (fun hb=>hop_load_fp ty_26 rfl (by first | exact Nat.le_of_ble_eq_true rfl | (simp at hb;first | omega | (dsimp only;omega) | (simp <;> omega)) | omega | (dsimp only;omega)) (fun h=>(by first | rfl | cases h))) rfl rfl rfl rfl rfl ?_
  first
  | refine hq_g 74 3 72 false _ (fun hb=>hol_load ty_26 rfl (by first | exact Nat.le_of_ble_eq_true rfl | (simp at hb;first | omega | (dsimp only;omega) | (simp <;> omega)) | omega | (dsimp only;omega)) (by first | exact Nat.le_of_ble_eq_true rfl | (simp at hb;first | omega | (dsimp only;omega) | (simp <;> omega)) | omega | (dsimp only;omega)) (fun h=>(by first | rfl | cases h))) rfl rfl rfl rfl (pre1 rfl) rfl rfl rfl ?_
  | refine hq_g2 74 3 72 _ _ false _ (fun hb=>hol_load ty_26 rfl (by first | exact Nat.le_of_ble_eq_true rfl | (simp at hb;first | omega | (dsimp only;omega) | (simp <;> omega)) | omega | (dsimp only;omega)) (by first | exact Nat.le_of_ble_eq_true rfl | (simp at hb;first | omega | (dsimp only;omega) | (simp <;> omega)) | omega | (dsimp only;omega)) (fun h=>(by first | rfl | cases h))) rfl rfl rfl rfl (pre1 rfl) rfl rfl rfl ?_
  | refine stg 72 (fun hb=>hop_load_fp ty_26 rfl (by first | exact Nat.le_of_ble_eq_true rfl | (simp at hb;first | omega | (dsimp only;omega) | (simp <;> omega)) | omega | (dsimp only;omega)) (fun h=>(by first | rfl | cases h))) rfl rfl rfl rfl rfl ?_
  | refine sth 72 (fun hb=>hop_load_fp ty_26 rfl (by first | exact Nat.le_of_ble_eq_true rfl | (simp at hb;first | omega | (dsimp only;omega) | (simp <;> omega)) | omega | (dsimp only;omega)) (fun h=>(by first | rfl | cases h))) rfl rfl rfl rfl rfl ?_
  first
  | refine stg 72 (fun hb=>hop_call0 (xs:=[_,_]) (same25q_h ((pastV s a).getD St.none) ((pastV s a).getD St.none) lp lp) ⟨rfl,⟨rfl,trivial⟩⟩ ⟨(Fz.eq rfl),⟨(Fz.eq rfl),trivial⟩⟩) rfl rfl rfl rfl rfl ?_
  | refine sth 72 (fun hb=>hop_call0 (xs:=[_,_]) (same25q_h ((pastV s a).getD St.none) ((pastV s a).getD St.none) lp lp) ⟨rfl,⟨rfl,trivial⟩⟩ ⟨(Fz.eq rfl),⟨(Fz.eq rfl),trivial⟩⟩) rfl rfl rfl rfl rfl ?_
  first
  | refine stg 72 (fun hb=>hop_not rfl) rfl rfl rfl rfl rfl ?_
  | refine sth 72 (fun hb=>hop_not rfl) rfl rfl rfl rfl rfl ?_
  first
  | refine hq_p 77 (hstep_and _ _ rfl rfl rfl) rfl rfl rfl ?_
  | refine hq_p 77 (hstep_or _ _ rfl rfl rfl) rfl rfl rfl ?_
  | refine hq_p 77 (hstep_ite _ _ _ rfl rfl rfl) rfl rfl rfl ?_
  | refine hq_p 77 (hstep_pick _ _ _ _ rfl rfl rfl (fun _=>.refl _) (fun _=>.refl _)) rfl rfl rfl ?_
  refine nu ?_
  refine h14 _ ?_
  refine wc (fun hc3=>?_) (fun hc3=>?_)
  ·have hr3:=hc3;(try simp only [hcs,Int.reduceToNat] at hc3)
   exfalso;simp at hr3
  have hr3:=hc3;(try simp only [hcs,Int.reduceToNat] at hc3)
  refine hw_skip<|h13 _<|srg fun N h15=>?_
  first
  | refine hq_ 79 (hol_load ty_26 rfl (by first | exact Nat.le_of_ble_eq_true rfl | omega | (dsimp only;omega) | (simp <;> omega)) (by first | exact Nat.le_of_ble_eq_true rfl | omega | (dsimp only;omega) | (simp <;> omega)) (fun h=>(by first | rfl | cases h))) rfl rfl (pre1 rfl) rfl rfl ?_
  | refine hq_ 79 (hop_load_fp ty_26 rfl (by first | exact Nat.le_of_ble_eq_true rfl | omega | (dsimp only;omega) | (simp <;> omega)) (fun h=>(by first | rfl | cases h))) rfl rfl pre0 rfl rfl ?_
  refine s0 (hop_build (hs:=[]) st_44 rfl rfl trivial) ?_
  refine hm_1 81 (hop_box (id:=9101) (sz:=2) rfl rfl rfl (by decide) (by decide)) rfl rfl pre0 rfl rfl (c':=20) rfl ?_
  refine (hsub_ownc 9101 0 9102 1 48 (mpsF []) (rtF (.os 9102 _ 0 0) (.imm (.map none))) rfl rfl (fun j hj=>by match j,hj with | 0,_=>exact .inl ⟨rfl,rfl⟩ | 1,_=>exact .inr rfl) (by decide) (by decide) (c':=21) rfl).seq ?_
  refine hf_callR 82 (xs:=[_,_]) (pre:=[(9101,_),(9102,_)]) ((optV_q _▸thrN_h _ _ [] (by simp) rtok0 s ls.1 ls.2 rfl) _) ⟨rfl,⟨rfl,trivial⟩⟩ (preC rfl (preC rfl pre0)) rfl rfl (fun x1 c1 hx1=>?_)
  (try dsimp only)
  refine sm ?_
  refine s0 hex ?_
  refine s0 hex ?_
  refine hm_1 15 (hop_alloc (id:=15) (sz:=10) zc_26 rfl rfl omx omx) rfl rfl pre0 rfl rfl (c':=c1+1) rfl ?_
  first
  | refine hm_s1 (hol_storeW ty_26 rfl rfl rfl rfl) rfl rfl (pre1 rfl) (c':=c1+2) rfl ?_
  | refine hm_s1 (hol_store ty_26 rfl rfl rfl rfl (by first | exact Nat.le_of_ble_eq_true rfl | omega | (dsimp only;omega) | (simp <;> omega)) (by first | exact Nat.le_of_ble_eq_true rfl | omega | (dsimp only;omega) | (simp <;> omega)) (by first | exact Nat.le_of_ble_eq_true rfl | omega | (dsimp only;omega) | (simp <;> omega))) rfl rfl (pre1 rfl) (c':=c1+2) rfl ?_
  refine sa<|snl h15<|srg fun N h16=>?_
  first
  | refine hq_ 85 (hol_load ty_26 rfl (by first | exact Nat.le_of_ble_eq_true rfl | omega | (dsimp only;omega) | (simp <;> omega)) (by first | exact Nat.le_of_ble_eq_true rfl | omega | (dsimp only;omega) | (simp <;> omega)) (fun h=>(by first | rfl | cases h))) rfl rfl (pre1 rfl) rfl rfl ?_
  | refine hq_ 85 (hop_load_fp ty_26 rfl (by first | exact Nat.le_of_ble_eq_true rfl | omega | (dsimp only;omega) | (simp <;> omega)) (fun h=>(by first | rfl | cases h))) rfl rfl pre0 rfl rfl ?_
  refine s0 (hop_call0 (xs:=[_]) (shape25_h s om om) ⟨rfl,trivial⟩ ⟨fe,trivial⟩) ?_
  refine s0 (hop_not rfl) ?_
  refine sm ?_
  first
  | refine stg 88 (fun hb=>hop_fa fd_26_0 rfl) rfl rfl rfl rfl rfl ?_
  | refine sth 88 (fun hb=>hop_fa fd_26_0 rfl) rfl rfl rfl rfl rfl ?_
  | refine stg 88 (fun hb=>hop_fa_fp fd_26_0 rfl (by first | exact Nat.le_of_ble_eq_true rfl | (simp at hb;first | omega | (dsimp only;omega) | (simp <;> omega)) | omega | (dsimp only;omega))) rfl rfl rfl rfl rfl ?_
  | refine sth 88 (fun hb=>hop_fa_fp fd_26_0 rfl (by first | exact Nat.le_of_ble_eq_true rfl | (simp at hb;first | omega | (dsimp only;omega) | (simp <;> omega)) | omega | (dsimp only;omega))) rfl rfl rfl rfl rfl ?_
  first
  | refine hq_g 90 3 88 false _ (fun hb=>hol_load ty_3 rfl (by first | exact Nat.le_of_ble_eq_true rfl | (simp at hb;first | omega | (dsimp only;omega) | (simp <;> omega)) | omega | (dsimp only;omega)) (by first | exact Nat.le_of_ble_eq_true rfl | (simp at hb;first | omega | (dsimp only;omega) | (simp <;> omega)) | omega | (dsimp only;omega)) (fun h=>(by first | rfl | cases h))) rfl rfl rfl rfl (pre1 rfl) rfl rfl rfl ?_
  | refine hq_g2 90 3 88 _ _ false _ (fun hb=>hol_load ty_3 rfl (by first | exact Nat.le_of_ble_eq_true rfl | (simp at hb;first | omega | (dsimp only;omega) | (simp <;> omega)) | omega | (dsimp only;omega)) (by first | exact Nat.le_of_ble_eq_true rfl | (simp at hb;first | omega | (dsimp only;omega) | (simp <;> omega)) | omega | (dsimp only;omega)) (fun h=>(by first | rfl | cases h))) rfl rfl rfl rfl (pre1 rfl) rfl rfl rfl ?_
  | refine stg 88 (fun hb=>hop_load_fp ty_3 rfl (by first | exact Nat.le_of_ble_eq_true rfl | (simp at hb;first | omega | (dsimp only;omega) | (simp <;> omega)) | omega | (dsimp only;omega)) (fun h=>(by first | rfl | cases h))) rfl rfl rfl rfl rfl ?_
  | refine sth 88 (fun hb=>hop_load_fp ty_3 rfl (by first | exact Nat.le_of_ble_eq_true rfl | (simp at hb;first | omega | (dsimp only;omega) | (simp <;> omega)) | omega | (dsimp only;omega)) (fun h=>(by first | rfl | cases h))) rfl rfl rfl rfl rfl ?_
  first
  | refine stg 88 (fun hb=>hop_eql rfl rfl) rfl rfl rfl rfl rfl ?_
  | refine sth 88 (fun hb=>hop_eql rfl rfl) rfl rfl rfl rfl rfl ?_
  first
  | refine stg 88 (fun hb=>hop_move rfl) rfl rfl rfl rfl rfl ?_
  | refine sth 88 (fun hb=>hop_move rfl) rfl rfl rfl rfl rfl ?_
  first
  | refine stg 92 (fun hb=>hop_fa fd_26_0 rfl) rfl rfl rfl rfl rfl ?_
  | refine hq_g3 93 7 92 88 false false _ _ (fun hb hb2=>hop_fa fd_26_0 rfl) rfl rfl rfl rfl rfl pre0 rfl rfl rfl ?_
  | refine sth 92 (fun hb=>hop_fa fd_26_0 rfl) rfl rfl rfl rfl rfl ?_
  | refine stg 92 (fun hb=>hop_fa_fp fd_26_0 rfl (by first | exact Nat.le_of_ble_eq_true rfl | (simp at hb;first | omega | (dsimp only;omega) | (simp <;> omega)) | omega | (dsimp only;omega))) rfl rfl rfl rfl rfl ?_
  | refine hq_g3 93 7 92 88 false false _ _ (fun hb hb2=>hop_fa_fp fd_26_0 rfl (by first | exact Nat.le_of_ble_eq_true rfl | (simp at hb;omega) | (simp at hb2;omega) | (simp at hb hb2;first | omega | (dsimp only;omega) | (simp <;> omega)) | omega | (dsimp only;omega))) rfl rfl rfl rfl rfl pre0 rfl rfl rfl ?_
  | refine sth 92 (fun hb=>hop_fa_fp fd_26_0 rfl (by first | exact Nat.le_of_ble_eq_true rfl | (simp at hb;first | omega | (dsimp only;omega) | (simp <;> omega)) | omega | (dsimp only;omega))) rfl rfl rfl rfl rfl ?_
  first
  | refine hq_g 94 7 92 false _ (fun hb=>hol_load ty_3 rfl (by first | exact Nat.le_of_ble_eq_true rfl | (simp at hb;first | omega | (dsimp only;omega) | (simp <;> omega)) | omega | (dsimp only;omega)) (by first | exact Nat.le_of_ble_eq_true rfl | (simp at hb;first | omega | (dsimp only;omega) | (simp <;> omega)) | omega | (dsimp only;omega)) (fun h=>(by first | rfl | cases h))) rfl rfl rfl rfl (pre1 rfl) rfl rfl rfl ?_
  | refine hq_g3 94 7 92 88 false false _ _ (fun hb hb2=>hol_load ty_3 rfl (by first | exact Nat.le_of_ble_eq_true rfl | (simp at hb;omega) | (simp at hb2;omega) | (simp at hb hb2;first | omega | (dsimp only;omega) | (simp <;> omega)) | omega | (dsimp only;omega)) (by first | exact Nat.le_of_ble_eq_true rfl | (simp at hb;omega) | (simp at hb2;omega) | (simp at hb hb2;first | omega | (dsimp only;omega) | (simp <;> omega)) | omega | (dsimp only;omega)) (fun h=>(by first | rfl | cases h))) rfl rfl rfl rfl rfl (pre1 rfl) rfl rfl rfl ?_
  | refine hq_g2 94 7 92 _ _ false _ (fun hb=>hol_load ty_3 rfl (by first | exact Nat.le_of_ble_eq_true rfl | (simp at hb;first | omega | (dsimp only;omega) | (simp <;> omega)) | omega | (dsimp only;omega)) (by first | exact Nat.le_of_ble_eq_true rfl | (simp at hb;first | omega | (dsimp only;omega) | (simp <;> omega)) | omega | (dsimp only;omega)) (fun h=>(by first | rfl | cases h))) rfl rfl rfl rfl (pre1 rfl) rfl rfl rfl ?_
  | refine stg 92 (fun hb=>hop_load_fp ty_3 rfl (by first | exact Nat.le_of_ble_eq_true rfl | (simp at hb;first | omega | (dsimp only;omega) | (simp <;> omega)) | omega | (dsimp only;omega)) (fun h=>(by first | rfl | cases h))) rfl rfl rfl rfl rfl ?_
  | refine hq_g3 94 7 92 88 false false _ _ (fun hb hb2=>hop_load_fp ty_3 rfl (by first | exact Nat.le_of_ble_eq_true rfl | (simp at hb;omega) | (simp at hb2;omega) | (simp at hb hb2;first | omega | (dsimp only;omega) | (simp <;> omega)) | omega | (dsimp only;omega)) (fun h=>(by first | rfl | cases h))) rfl rfl rfl rfl rfl pre0 rfl rfl rfl ?_
  | refine sth 92 (fun hb=>hop_load_fp ty_3 rfl (by first | exact Nat.le_of_ble_eq_true rfl | (simp at hb;first | omega | (dsimp only;omega) | (simp <;> omega)) | omega | (dsimp only;omega)) (fun h=>(by first | rfl | cases h))) rfl rfl rfl rfl rfl ?_
  first
  | refine stg 92 (fun hb=>hop_eql rfl rfl) rfl rfl rfl rfl rfl ?_
  | refine hq_g3 95 7 92 88 false false _ _ (fun hb hb2=>hop_eql rfl rfl) rfl rfl rfl rfl rfl pre0 rfl rfl rfl ?_
  | refine sth 92 (fun hb=>hop_eql rfl rfl) rfl rfl rfl rfl rfl ?_
  first
  | refine hq_pg 96 (hstep_andg (gi:=3) (j:=88) _ _ rfl rfl rfl rfl) rfl rfl rfl rfl ?_
  | refine hq_pg 96 (hstep_org (gi:=3) (j:=88) _ _ rfl rfl rfl rfl) rfl rfl rfl rfl ?_
  | refine hq_pg 96 (hstep_pickg (gi:=3) (j:=88) _ _ _ _ rfl rfl rfl rfl (fun _=>.refl _) (fun _=>.refl _)) rfl rfl rfl rfl ?_
  first
  | refine stg 88 (fun hb=>hop_move rfl) rfl rfl rfl rfl rfl ?_
  | refine sth 88 (fun hb=>hop_move rfl) rfl rfl rfl rfl rfl ?_
  first
  | refine stg 97 (fun hb=>hop_fa fd_26_1 rfl) rfl rfl rfl rfl rfl ?_
  | refine hq_g3 98 12 97 88 false true _ _ (fun hb hb2=>hop_fa fd_26_1 rfl) rfl rfl rfl rfl rfl pre0 rfl rfl rfl ?_
  | refine sth 97 (fun hb=>hop_fa fd_26_1 rfl) rfl rfl rfl rfl rfl ?_
  | refine stg 97 (fun hb=>hop_fa_fp fd_26_1 rfl (by first | exact Nat.le_of_ble_eq_true rfl | (simp at hb;first | omega | (dsimp only;omega) | (simp <;> omega)) | omega | (dsimp only;omega))) rfl rfl rfl rfl rfl ?_
  | refine hq_g3 98 12 97 88 false true _ _ (fun hb hb2=>hop_fa_fp fd_26_1 rfl (by first | exact Nat.le_of_ble_eq_true rfl | (simp at hb;omega) | (simp at hb2;omega) | (simp at hb hb2;first | omega | (dsimp only;omega) | (simp <;> omega)) | omega | (dsimp only;omega))) rfl rfl rfl rfl rfl pre0 rfl rfl rfl ?_
  | refine sth 97 (fun hb=>hop_fa_fp fd_26_1 rfl (by first | exact Nat.le_of_ble_eq_true rfl | (simp at hb;first | omega | (dsimp only;omega) | (simp <;> omega)) | omega | (dsimp only;omega))) rfl rfl rfl rfl rfl ?_
  first
  | refine hq_g 99 12 97 true _ (fun hb=>hol_load ty_3 rfl (by first | exact Nat.le_of_ble_eq_true rfl | (simp at hb;first | omega | (dsimp only;omega) | (simp <;> omega)) | omega | (dsimp only;omega)) (by first | exact Nat.le_of_ble_eq_true rfl | (simp at hb;first | omega | (dsimp only;omega) | (simp <;> omega)) | omega | (dsimp only;omega)) (fun h=>(by first | rfl | cases h))) rfl rfl rfl rfl (pre1 rfl) rfl rfl rfl ?_
  | refine hq_g3 99 12 97 88 false true _ _ (fun hb hb2=>hol_load ty_3 rfl (by first | exact Nat.le_of_ble_eq_true rfl | (simp at hb;omega) | (simp at hb2;omega) | (simp at hb hb2;first | omega | (dsimp only;omega) | (simp <;> omega)) | omega | (dsimp only;omega)) (by first | exact Nat.le_of_ble_eq_true rfl | (simp at hb;omega) | (simp at hb2;omega) | (simp at hb hb2;first | omega | (dsimp only;omega) | (simp <;> omega)) | omega | (dsimp only;omega)) (fun h=>(by first | rfl | cases h))) rfl rfl rfl rfl rfl (pre1 rfl) rfl rfl rfl ?_
  | refine hq_g2 99 12 97 _ _ true _ (fun hb=>hol_load ty_3 rfl (by first | exact Nat.le_of_ble_eq_true rfl | (simp at hb;first | omega | (dsimp only;omega) | (simp <;> omega)) | omega | (dsimp only;omega)) (by first | exact Nat.le_of_ble_eq_true rfl | (simp at hb;first | omega | (dsimp only;omega) | (simp <;> omega)) | omega | (dsimp only;omega)) (fun h=>(by first | rfl | cases h))) rfl rfl rfl rfl (pre1 rfl) rfl rfl rfl ?_
  | refine stg 97 (fun hb=>hop_load_fp ty_3 rfl (by first | exact Nat.le_of_ble_eq_true rfl | (simp at hb;first | omega | (dsimp only;omega) | (simp <;> omega)) | omega | (dsimp only;omega)) (fun h=>(by first | rfl | cases h))) rfl rfl rfl rfl rfl ?_
  | refine hq_g3 99 12 97 88 false true _ _ (fun hb hb2=>hop_load_fp ty_3 rfl (by first | exact Nat.le_of_ble_eq_true rfl | (simp at hb;omega) | (simp at hb2;omega) | (simp at hb hb2;first | omega | (dsimp only;omega) | (simp <;> omega)) | omega | (dsimp only;omega)) (fun h=>(by first | rfl | cases h))) rfl rfl rfl rfl rfl pre0 rfl rfl rfl ?_
  | refine sth 97 (fun hb=>hop_load_fp ty_3 rfl (by first | exact Nat.le_of_ble_eq_true rfl | (simp at hb;first | omega | (dsimp only;omega) | (simp <;> omega)) | omega | (dsimp only;omega)) (fun h=>(by first | rfl | cases h))) rfl rfl rfl rfl rfl ?_
  first
  | refine stg 97 (fun hb=>hop_fa fd_26_2 rfl) rfl rfl rfl rfl rfl ?_
  | refine hq_g3 100 12 97 88 false true _ _ (fun hb hb2=>hop_fa fd_26_2 rfl) rfl rfl rfl rfl rfl pre0 rfl rfl rfl ?_
  | refine sth 97 (fun hb=>hop_fa fd_26_2 rfl) rfl rfl rfl rfl rfl ?_
  | refine stg 97 (fun hb=>hop_fa_fp fd_26_2 rfl (by first | exact Nat.le_of_ble_eq_true rfl | (simp at hb;first | omega | (dsimp only;omega) | (simp <;> omega)) | omega | (dsimp only;omega))) rfl rfl rfl rfl rfl ?_
  | refine hq_g3 100 12 97 88 false true _ _ (fun hb hb2=>hop_fa_fp fd_26_2 rfl (by first | exact Nat.le_of_ble_eq_true rfl | (simp at hb;omega) | (simp at hb2;omega) | (simp at hb hb2;first | omega | (dsimp only;omega) | (simp <;> omega)) | omega | (dsimp only;omega))) rfl rfl rfl rfl rfl pre0 rfl rfl rfl ?_
  | refine sth 97 (fun hb=>hop_fa_fp fd_26_2 rfl (by first | exact Nat.le_of_ble_eq_true rfl | (simp at hb;first | omega | (dsimp only;omega) | (simp <;> omega)) | omega | (dsimp only;omega))) rfl rfl rfl rfl rfl ?_
  first
  | refine hq_g 101 12 97 true _ (fun hb=>hol_load ty_3 rfl (by first | exact Nat.le_of_ble_eq_true rfl | (simp at hb;first | omega | (dsimp only;omega) | (simp <;> omega)) | omega | (dsimp only;omega)) (by first | exact Nat.le_of_ble_eq_true rfl | (simp at hb;first | omega | (dsimp only;omega) | (simp <;> omega)) | omega | (dsimp only;omega)) (fun h=>(by first | rfl | cases h))) rfl rfl rfl rfl (pre1 rfl) rfl rfl rfl ?_
  | refine hq_g3 101 12 97 88 false true _ _ (fun hb hb2=>hol_load ty_3 rfl (by first | exact Nat.le_of_ble_eq_true rfl | (simp at hb;omega) | (simp at hb2;omega) | (simp at hb hb2;first | omega | (dsimp only;omega) | (simp <;> omega)) | omega | (dsimp only;omega)) (by first | exact Nat.le_of_ble_eq_true rfl | (simp at hb;omega) | (simp at hb2;omega) | (simp at hb hb2;first | omega | (dsimp only;omega) | (simp <;> omega)) | omega | (dsimp only;omega)) (fun h=>(by first | rfl | cases h))) rfl rfl rfl rfl rfl (pre1 rfl) rfl rfl rfl ?_
  | refine hq_g2 101 12 97 _ _ true _ (fun hb=>hol_load ty_3 rfl (by first | exact Nat.le_of_ble_eq_true rfl | (simp at hb;first | omega | (dsimp only;omega) | (simp <;> omega)) | omega | (dsimp only;omega)) (by first | exact Nat.le_of_ble_eq_true rfl | (simp at hb;first | omega | (dsimp only;omega) | (simp <;> omega)) | omega | (dsimp only;omega)) (fun h=>(by first | rfl | cases h))) rfl rfl rfl rfl (pre1 rfl) rfl rfl rfl ?_
  | refine stg 97 (fun hb=>hop_load_fp ty_3 rfl (by first | exact Nat.le_of_ble_eq_true rfl | (simp at hb;first | omega | (dsimp only;omega) | (simp <;> omega)) | omega | (dsimp only;omega)) (fun h=>(by first | rfl | cases h))) rfl rfl rfl rfl rfl ?_
  | refine hq_g3 101 12 97 88 false true _ _ (fun hb hb2=>hop_load_fp ty_3 rfl (by first | exact Nat.le_of_ble_eq_true rfl | (simp at hb;omega) | (simp at hb2;omega) | (simp at hb hb2;first | omega | (dsimp only;omega) | (simp <;> omega)) | omega | (dsimp only;omega)) (fun h=>(by first | rfl | cases h))) rfl rfl rfl rfl rfl pre0 rfl rfl rfl ?_
  | refine sth 97 (fun hb=>hop_load_fp ty_3 rfl (by first | exact Nat.le_of_ble_eq_true rfl | (simp at hb;first | omega | (dsimp only;omega) | (simp <;> omega)) | omega | (dsimp only;omega)) (fun h=>(by first | rfl | cases h))) rfl rfl rfl rfl rfl ?_
  first
  | refine stg 97 (fun hb=>hop_eql rfl rfl) rfl rfl rfl rfl rfl ?_
  | refine hq_g3 102 12 97 88 false true _ _ (fun hb hb2=>hop_eql rfl rfl) rfl rfl rfl rfl rfl pre0 rfl rfl rfl ?_
  | refine sth 97 (fun hb=>hop_eql rfl rfl) rfl rfl rfl rfl rfl ?_
  first
  | refine hq_pg 103 (hstep_andg (gi:=3) (j:=88) _ _ rfl rfl rfl rfl) rfl rfl rfl rfl ?_
  | refine hq_pg 103 (hstep_org (gi:=3) (j:=88) _ _ rfl rfl rfl rfl) rfl rfl rfl rfl ?_
  | refine hq_pg 103 (hstep_pickg (gi:=3) (j:=88) _ _ _ _ rfl rfl rfl rfl (fun _=>.refl _) (fun _=>.refl _)) rfl rfl rfl rfl ?_
  first
  | refine hq_p 104 (hstep_and _ _ rfl rfl rfl) rfl rfl rfl ?_
  | refine hq_p 104 (hstep_or _ _ rfl rfl rfl) rfl rfl rfl ?_
  | refine hq_p 104 (hstep_ite _ _ _ rfl rfl rfl) rfl rfl rfl ?_
  | refine hq_p 104 (hstep_pick _ _ _ _ rfl rfl rfl (fun _=>.refl _) (fun _=>.refl _)) rfl rfl rfl ?_
  refine sa ?_
  refine nu ?_
  refine h16 _<|srg fun N h17=>sm<|sm ?_
  refine s0 (hop_not rfl) ?_
  refine s0 (hop_beq (fun w=>by kernel_rfl) rfl rfl) ?_
  refine sm ?_
  first
  | refine stg 109 (fun hb=>hop_move rfl) rfl rfl rfl rfl rfl ?_
  | refine sth 109 (fun hb=>hop_move rfl) rfl rfl rfl rfl rfl ?_
  first
  | refine stg 109 (fun hb=>hop_move rfl) rfl rfl rfl rfl rfl ?_
  | refine sth 109 (fun hb=>hop_move rfl) rfl rfl rfl rfl rfl ?_
  first
  | refine hq_g 112 6 111 false _ (fun hb=>hol_load ty_26 rfl (by first | exact Nat.le_of_ble_eq_true rfl | (simp at hb;first | omega | (dsimp only;omega) | (simp <;> omega)) | omega | (dsimp only;omega)) (by first | exact Nat.le_of_ble_eq_true rfl | (simp at hb;first | omega | (dsimp only;omega) | (simp <;> omega)) | omega | (dsimp only;omega)) (fun h=>(by first | rfl | cases h))) rfl rfl rfl rfl (pre1 rfl) rfl rfl rfl ?_
  | refine hq_g3 112 6 111 109 true false _ _ (fun hb hb2=>hol_load ty_26 rfl (by first | exact Nat.le_of_ble_eq_true rfl | (simp at hb;omega) | (simp at hb2;omega) | (simp at hb hb2;first | omega | (dsimp only;omega) | (simp <;> omega)) | omega | (dsimp only;omega)) (by first | exact Nat.le_of_ble_eq_true rfl | (simp at hb;omega) | (simp at hb2;omega) | (simp at hb hb2;first | omega | (dsimp only;omega) | (simp <;> omega)) | omega | (dsimp only;omega)) (fun h=>(by first | rfl | cases h))) rfl rfl rfl rfl rfl (pre1 rfl) rfl rfl rfl ?_
  | refine hq_g2 112 6 111 _ _ false _ (fun hb=>hol_load ty_26 rfl (by first | exact Nat.le_of_ble_eq_true rfl | (simp at hb;first | omega | (dsimp only;omega) | (simp <;> omega)) | omega | (dsimp only;omega)) (by first | exact Nat.le_of_ble_eq_true rfl | (simp at hb;first | omega | (dsimp only;omega) | (simp <;> omega)) | omega | (dsimp only;omega)) (fun h=>(by first | rfl | cases h))) rfl rfl rfl rfl (pre1 rfl) rfl rfl rfl ?_
  | refine stg 111 (fun hb=>hop_load_fp ty_26 rfl (by first | exact Nat.le_of_ble_eq_true rfl | (simp at hb;first | omega | (dsimp only;omega) | (simp <;> omega)) | omega | (dsimp only;omega)) (fun h=>(by first | rfl | cases h))) rfl rfl rfl rfl rfl ?_
  | refine hq_g3 112 6 111 109 true false _ _ (fun hb hb2=>hop_load_fp ty_26 rfl (by first | exact Nat.le_of_ble_eq_true rfl | (simp at hb;omega) | (simp at hb2;omega) | (simp at hb hb2;first | omega | (dsimp only;omega) | (simp <;> omega)) | omega | (dsimp only;omega)) (fun h=>(by first | rfl | cases h))) rfl rfl rfl rfl rfl pre0 rfl rfl rfl ?_
  | refine sth 111 (fun hb=>hop_load_fp ty_26 rfl (by first | exact Nat.le_of_ble_eq_true rfl | (simp at hb;first | omega | (dsimp only;omega) | (simp <;> omega)) | omega | (dsimp only;omega)) (fun h=>(by first | rfl | cases h))) rfl rfl rfl rfl rfl ?_
  first
  | refine hq_g 113 6 111 false _ (fun hb=>hol_load ty_26 rfl (by first | exact Nat.le_of_ble_eq_true rfl | (simp at hb;first | omega | (dsimp only;omega) | (simp <;> omega)) | omega | (dsimp only;omega)) (by first | exact Nat.le_of_ble_eq_true rfl | (simp at hb;first | omega | (dsimp only;omega) | (simp <;> omega)) | omega | (dsimp only;omega)) (fun h=>(by first | rfl | cases h))) rfl rfl rfl rfl (pre1 rfl) rfl rfl rfl ?_
  | refine hq_g3 113 6 111 109 true false _ _ (fun hb hb2=>hol_load ty_26 rfl (by first | exact Nat.le_of_ble_eq_true rfl | (simp at hb;omega) | (simp at hb2;omega) | (simp at hb hb2;first | omega | (dsimp only;omega) | (simp <;> omega)) | omega | (dsimp only;omega)) (by first | exact Nat.le_of_ble_eq_true rfl | (simp at hb;omega) | (simp at hb2;omega) | (simp at hb hb2;first | omega | (dsimp only;omega) | (simp <;> omega)) | omega | (dsimp only;omega)) (fun h=>(by first | rfl | cases h))) rfl rfl rfl rfl rfl (pre1 rfl) rfl rfl rfl ?_
  | refine hq_g2 113 6 111 _ _ false _ (fun hb=>hol_load ty_26 rfl (by first | exact Nat.le_of_ble_eq_true rfl | (simp at hb;first | omega | (dsimp only;omega) | (simp <;> omega)) | omega | (dsimp only;omega)) (by first | exact Nat.le_of_ble_eq_true rfl | (simp at hb;first | omega | (dsimp only;omega) | (simp <;> omega)) | omega | (dsimp only;omega)) (fun h=>(by first | rfl | cases h))) rfl rfl rfl rfl (pre1 rfl) rfl rfl rfl ?_
  | refine stg 111 (fun hb=>hop_load_fp ty_26 rfl (by first | exact Nat.le_of_ble_eq_true rfl | (simp at hb;first | omega | (dsimp only;omega) | (simp <;> omega)) | omega | (dsimp only;omega)) (fun h=>(by first | rfl | cases h))) rfl rfl rfl rfl rfl ?_
  | refine hq_g3 113 6 111 109 true false _ _ (fun hb hb2=>hop_load_fp ty_26 rfl (by first | exact Nat.le_of_ble_eq_true rfl | (simp at hb;omega) | (simp at hb2;omega) | (simp at hb hb2;first | omega | (dsimp only;omega) | (simp <;> omega)) | omega | (dsimp only;omega)) (fun h=>(by first | rfl | cases h))) rfl rfl rfl rfl rfl pre0 rfl rfl rfl ?_
  | refine sth 111 (fun hb=>hop_load_fp ty_26 rfl (by first | exact Nat.le_of_ble_eq_true rfl | (simp at hb;first | omega | (dsimp only;omega) | (simp <;> omega)) | omega | (dsimp only;omega)) (fun h=>(by first | rfl | cases h))) rfl rfl rfl rfl rfl ?_
  first
  | refine stg 111 (fun hb=>hop_call0 (xs:=[_,_]) (same25q_h ((byV (routeV [] []) s).getD St.none) s (by rw [byV_nil];split <;> first | exact ls | exact ⟨Nat.zero_le _,Nat.zero_le _⟩) ls) ⟨rfl,⟨rfl,trivial⟩⟩ ⟨(Fz.eq rfl),⟨(Fz.eq rfl),trivial⟩⟩) rfl rfl rfl rfl rfl ?_
  | refine hq_g3 114 6 111 109 true false _ _ (fun hb hb2=>hop_call0 (xs:=[_,_]) (same25q_h ((byV (routeV [] []) s).getD St.none) s (by rw [byV_nil];split <;> first | exact ls | exact ⟨Nat.zero_le _,Nat.zero_le _⟩) ls) ⟨rfl,⟨rfl,trivial⟩⟩ ⟨(Fz.eq rfl),⟨(Fz.eq rfl),trivial⟩⟩) rfl rfl rfl rfl rfl pre0 rfl rfl rfl ?_
  | refine sth 111 (fun hb=>hop_call0 (xs:=[_,_]) (same25q_h ((byV (routeV [] []) s).getD St.none) s (by rw [byV_nil];split <;> first | exact ls | exact ⟨Nat.zero_le _,Nat.zero_le _⟩) ls) ⟨rfl,⟨rfl,trivial⟩⟩ ⟨(Fz.eq rfl),⟨(Fz.eq rfl),trivial⟩⟩) rfl rfl rfl rfl rfl ?_
  first
  | refine hq_pg 115 (hstep_andg (gi:=4) (j:=109) _ _ rfl rfl rfl rfl) rfl rfl rfl rfl ?_
  | refine hq_pg 115 (hstep_org (gi:=4) (j:=109) _ _ rfl rfl rfl rfl) rfl rfl rfl rfl ?_
  | refine hq_pg 115 (hstep_pickg (gi:=4) (j:=109) _ _ _ _ rfl rfl rfl rfl (fun _=>.refl _) (fun _=>.refl _)) rfl rfl rfl rfl ?_
  first
  | refine hq_p 116 (hstep_and _ _ rfl rfl rfl) rfl rfl rfl ?_
  | refine hq_p 116 (hstep_or _ _ rfl rfl rfl) rfl rfl rfl ?_
  | refine hq_p 116 (hstep_ite _ _ _ rfl rfl rfl) rfl rfl rfl ?_
  | refine hq_p 116 (hstep_pick _ _ _ _ rfl rfl rfl (fun _=>.refl _) (fun _=>.refl _)) rfl rfl rfl ?_
  refine sm ?_
  first
  | refine stg 117 (fun hb=>hop_call0 (xs:=[]) (live26_h) trivial trivial) rfl rfl rfl rfl rfl ?_
  | refine sth 117 (fun hb=>hop_call0 (xs:=[]) (live26_h) trivial trivial) rfl rfl rfl rfl rfl ?_
  first
  | refine hq_p 119 (hstep_and _ _ rfl rfl rfl) rfl rfl rfl ?_
  | refine hq_p 119 (hstep_or _ _ rfl rfl rfl) rfl rfl rfl ?_
  | refine hq_p 119 (hstep_ite _ _ _ rfl rfl rfl) rfl rfl rfl ?_
  | refine hq_p 119 (hstep_pick _ _ _ _ rfl rfl rfl (fun _=>.refl _) (fun _=>.refl _)) rfl rfl rfl ?_
  refine sa ?_
  refine nu ?_
  refine h17 _<|hw_ret ?_
  refine hq_ret1 rfl (rval_tmp rfl) [] rfl pre0 ?_
  exact Fz.eq (congrArg (fun b=>boolV b) (fin_ok s))
 have hr2:=hc2;(try simp only [hcs,Int.reduceToNat] at hc2)
 have ha:¬ a.shape=true:=(by simpa using hr2);have hp:pastV s a=none:=if_neg ha
 refine hw_skip<|h11 _<|hw_seq fun Nh18 h18=>srg fun N h19=>sm<|sm ?_
 refine s0 (hop_bne (fun w=>by kernel_rfl) rfl rfl) ?_
 refine sm ?_
 first
 | refine hq_g 73 3 72 false _ (fun hb=>hol_load ty_26 rfl (by first | exact Nat.le_of_ble_eq_true rfl | (simp at hb;first | omega | (dsimp only;omega) | (simp <;> omega)) | omega | (dsimp only;omega)) (by first | exact Nat.le_of_ble_eq_true rfl | (simp at hb;first | omega | (dsimp only;omega) | (simp <;> omega)) | omega | (dsimp only;omega)) (fun h=>(by first | rfl | cases h))) rfl rfl rfl rfl (pre1 rfl) rfl rfl rfl ?_
 | refine hq_g2 73 3 72 _ _ false _ (fun hb=>hol_load ty_26 rfl (by first | exact Nat.le_of_ble_eq_true rfl | (simp at hb;first | omega | (dsimp only;omega) | (simp <;> omega)) | omega | (dsimp only;omega)) (by first | exact Nat.le_of_ble_eq_true rfl | (simp at hb;first | omega | (dsimp only;omega) | (simp <;> omega)) | omega | (dsimp only;omega)) (fun h=>(by first | rfl | cases h))) rfl rfl rfl rfl (pre1 rfl) rfl rfl rfl ?_
 | refine stg 72 (fun hb=>hop_load_fp ty_26 rfl (by first | exact Nat.le_of_ble_eq_true rfl | (simp at hb;first | omega | (dsimp only;omega) | (simp <;> omega)) | omega | (dsimp only;omega)) (fun h=>(by first | rfl | cases h))) rfl rfl rfl rfl rfl ?_
 | refine sth 72 (fun hb=>hop_load_fp ty_26 rfl (by first | exact Nat.le_of_ble_eq_true rfl | (simp at hb;first | omega | (dsimp only;omega) | (simp <;> omega)) | omega | (dsimp only;omega)) (fun h=>(by first | rfl | cases h))) rfl rfl rfl rfl rfl ?_
 first
 | refine hq_g 74 3 72 false _ (fun hb=>hol_load ty_26 rfl (by first | exact Nat.le_of_ble_eq_true rfl | (simp at hb;first | omega | (dsimp only;omega) | (simp <;> omega)) | omega | (dsimp only;omega)) (by first | exact Nat.le_of_ble_eq_true rfl | (simp at hb;first | omega | (dsimp only;omega) | (simp <;> omega)) | omega | (dsimp only;omega)) (fun h=>(by first | rfl | cases h))) rfl rfl rfl rfl (pre1 rfl) rfl rfl rfl ?_
 | refine hq_g2 74 3 72 _ _ false _ (fun hb=>hol_load ty_26 rfl (by first | exact Nat.le_of_ble_eq_true rfl | (simp at hb;first | omega | (dsimp only;omega) | (simp <;> omega)) | omega | (dsimp only;omega)) (by first | exact Nat.le_of_ble_eq_true rfl | (simp at hb;first | omega | (dsimp only;omega) | (simp <;> omega)) | omega | (dsimp only;omega)) (fun h=>(by first | rfl | cases h))) rfl rfl rfl rfl (pre1 rfl) rfl rfl rfl ?_
 | refine stg 72 (fun hb=>hop_load_fp ty_26 rfl (by first | exact Nat.le_of_ble_eq_true rfl | (simp at hb;first | omega | (dsimp only;omega) | (simp <;> omega)) | omega | (dsimp only;omega)) (fun h=>(by first | rfl | cases h))) rfl rfl rfl rfl rfl ?_
 | refine sth 72 (fun hb=>hop_load_fp ty_26 rfl (by first | exact Nat.le_of_ble_eq_true rfl | (simp at hb;first | omega | (dsimp only;omega) | (simp <;> omega)) | omega | (dsimp only;omega)) (fun h=>(by first | rfl | cases h))) rfl rfl rfl rfl rfl ?_
 first
 | refine stg 72 (fun hb=>hop_call0 (xs:=[_,_]) (same25q_h ((pastV s a).getD St.none) St.none lp ⟨Nat.zero_le _,Nat.zero_le _⟩) ⟨rfl,⟨rfl,trivial⟩⟩ ⟨(Fz.eq rfl),⟨(fz_agg10 (by first | exact .imm _ | exact .nil _ _ _ (by decide) _ | exact fz_toks _ | exact fz_mkss _ | exact Frz.fz) (by first | exact .imm _ | exact .nil _ _ _ (by decide) _ | exact fz_toks _ | exact fz_mkss _ | exact Frz.fz) (by first | exact .imm _ | exact .nil _ _ _ (by decide) _ | exact fz_toks _ | exact fz_mkss _ | exact Frz.fz) (by first | exact .imm _ | exact .nil _ _ _ (by decide) _ | exact fz_toks _ | exact fz_mkss _ | exact Frz.fz) (by first | exact .imm _ | exact .nil _ _ _ (by decide) _ | exact fz_toks _ | exact fz_mkss _ | exact Frz.fz) (by first | exact .imm _ | exact .nil _ _ _ (by decide) _ | exact fz_toks _ | exact fz_mkss _ | exact Frz.fz) (by first | exact .imm _ | exact .nil _ _ _ (by decide) _ | exact fz_toks _ | exact fz_mkss _ | exact Frz.fz) (by first | exact .imm _ | exact .nil _ _ _ (by decide) _ | exact fz_toks _ | exact fz_mkss _ | exact Frz.fz) (by first | exact .imm _ | exact .nil _ _ _ (by decide) _ | exact fz_toks _ | exact fz_mkss _ | exact Frz.fz) (by first | exact .imm _ | exact .nil _ _ _ (by decide) _ | exact fz_toks _ | exact fz_mkss _ | exact Frz.fz)),trivial⟩⟩) rfl rfl rfl rfl rfl ?_
 | refine sth 72 (fun hb=>hop_call0 (xs:=[_,_]) (same25q_h ((pastV s a).getD St.none) St.none lp ⟨Nat.zero_le _,Nat.zero_le _⟩) ⟨rfl,⟨rfl,trivial⟩⟩ ⟨(Fz.eq rfl),⟨(fz_agg10 (by first | exact .imm _ | exact .nil _ _ _ (by decide) _ | exact fz_toks _ | exact fz_mkss _ | exact Frz.fz) (by first | exact .imm _ | exact .nil _ _ _ (by decide) _ | exact fz_toks _ | exact fz_mkss _ | exact Frz.fz) (by first | exact .imm _ | exact .nil _ _ _ (by decide) _ | exact fz_toks _ | exact fz_mkss _ | exact Frz.fz) (by first | exact .imm _ | exact .nil _ _ _ (by decide) _ | exact fz_toks _ | exact fz_mkss _ | exact Frz.fz) (by first | exact .imm _ | exact .nil _ _ _ (by decide) _ | exact fz_toks _ | exact fz_mkss _ | exact Frz.fz) (by first | exact .imm _ | exact .nil _ _ _ (by decide) _ | exact fz_toks _ | exact fz_mkss _ | exact Frz.fz) (by first | exact .imm _ | exact .nil _ _ _ (by decide) _ | exact fz_toks _ | exact fz_mkss _ | exact Frz.fz) (by first | exact .imm _ | exact .nil _ _ _ (by decide) _ | exact fz_toks _ | exact fz_mkss _ | exact Frz.fz) (by first | exact .imm _ | exact .nil _ _ _ (by decide) _ | exact fz_toks _ | exact fz_mkss _ | exact Frz.fz) (by first | exact .imm _ | exact .nil _ _ _ (by decide) _ | exact fz_toks _ | exact fz_mkss _ | exact Frz.fz)),trivial⟩⟩) rfl rfl rfl rfl rfl ?_
 first
 | refine stg 72 (fun hb=>hop_not rfl) rfl rfl rfl rfl rfl ?_
 | refine sth 72 (fun hb=>hop_not rfl) rfl rfl rfl rfl rfl ?_
 first
 | refine hq_p 77 (hstep_and _ _ rfl rfl rfl) rfl rfl rfl ?_
 | refine hq_p 77 (hstep_or _ _ rfl rfl rfl) rfl rfl rfl ?_
 | refine hq_p 77 (hstep_ite _ _ _ rfl rfl rfl) rfl rfl rfl ?_
 | refine hq_p 77 (hstep_pick _ _ _ _ rfl rfl rfl (fun _=>.refl _) (fun _=>.refl _)) rfl rfl rfl ?_
 refine nu ?_
 refine h19 _ ?_
 refine wc (fun hc3=>?_) (fun hc3=>?_)
 ·have hr3:=hc3;(try simp only [hcs,Int.reduceToNat] at hc3)
  exfalso;simp [hp] at hr3
 have hr3:=hc3;(try simp only [hcs,Int.reduceToNat] at hc3)
 refine hw_skip<|h18 _<|srg fun N h20=>?_
 first
 | refine hq_ 79 (hol_load ty_26 rfl (by first | exact Nat.le_of_ble_eq_true rfl | omega | (dsimp only;omega) | (simp <;> omega)) (by first | exact Nat.le_of_ble_eq_true rfl | omega | (dsimp only;omega) | (simp <;> omega)) (fun h=>(by first | rfl | cases h))) rfl rfl (pre1 rfl) rfl rfl ?_
 | refine hq_ 79 (hop_load_fp ty_26 rfl (by first | exact Nat.le_of_ble_eq_true rfl | omega | (dsimp only;omega) | (simp <;> omega)) (fun h=>(by first | rfl | cases h))) rfl rfl pre0 rfl rfl ?_
 refine s0 (hop_build (hs:=[]) st_44 rfl rfl trivial) ?_
 refine hm_1 81 (hop_box (id:=9101) (sz:=2) rfl rfl rfl (by decide) (by decide)) rfl rfl pre0 rfl rfl (c':=11) rfl ?_
 refine (hsub_ownc 9101 0 9102 1 48 (mpsF []) (rtF (.os 9102 _ 0 0) (.imm (.map none))) rfl rfl (fun j hj=>by match j,hj with | 0,_=>exact .inl ⟨rfl,rfl⟩ | 1,_=>exact .inr rfl) (by decide) (by decide) (c':=12) rfl).seq ?_
 refine hf_callR 82 (xs:=[_,_]) (pre:=[(9101,_),(9102,_)]) ((optV_q _▸thrN_h _ _ [] (by simp) rtok0 s ls.1 ls.2 rfl) _) ⟨rfl,⟨rfl,trivial⟩⟩ (preC rfl (preC rfl pre0)) rfl rfl (fun x2 c2 hx2=>?_)
 (try dsimp only)
 refine sm ?_
 refine s0 hex ?_
 refine s0 hex ?_
 refine hm_1 15 (hop_alloc (id:=15) (sz:=10) zc_26 rfl rfl omx omx) rfl rfl pre0 rfl rfl (c':=c2+1) rfl ?_
 first
 | refine hm_s1 (hol_storeW ty_26 rfl rfl rfl rfl) rfl rfl (pre1 rfl) (c':=c2+2) rfl ?_
 | refine hm_s1 (hol_store ty_26 rfl rfl rfl rfl (by first | exact Nat.le_of_ble_eq_true rfl | omega | (dsimp only;omega) | (simp <;> omega)) (by first | exact Nat.le_of_ble_eq_true rfl | omega | (dsimp only;omega) | (simp <;> omega)) (by first | exact Nat.le_of_ble_eq_true rfl | omega | (dsimp only;omega) | (simp <;> omega))) rfl rfl (pre1 rfl) (c':=c2+2) rfl ?_
 refine sa<|snl h20<|srg fun N h21=>?_
 first
 | refine hq_ 85 (hol_load ty_26 rfl (by first | exact Nat.le_of_ble_eq_true rfl | omega | (dsimp only;omega) | (simp <;> omega)) (by first | exact Nat.le_of_ble_eq_true rfl | omega | (dsimp only;omega) | (simp <;> omega)) (fun h=>(by first | rfl | cases h))) rfl rfl (pre1 rfl) rfl rfl ?_
 | refine hq_ 85 (hop_load_fp ty_26 rfl (by first | exact Nat.le_of_ble_eq_true rfl | omega | (dsimp only;omega) | (simp <;> omega)) (fun h=>(by first | rfl | cases h))) rfl rfl pre0 rfl rfl ?_
 refine s0 (hop_call0 (xs:=[_]) (shape25_h s om om) ⟨rfl,trivial⟩ ⟨fe,trivial⟩) ?_
 refine s0 (hop_not rfl) ?_
 refine sm ?_
 first
 | refine stg 88 (fun hb=>hop_fa fd_26_0 rfl) rfl rfl rfl rfl rfl ?_
 | refine sth 88 (fun hb=>hop_fa fd_26_0 rfl) rfl rfl rfl rfl rfl ?_
 | refine stg 88 (fun hb=>hop_fa_fp fd_26_0 rfl (by first | exact Nat.le_of_ble_eq_true rfl | (simp at hb;first | omega | (dsimp only;omega) | (simp <;> omega)) | omega | (dsimp only;omega))) rfl rfl rfl rfl rfl ?_
 | refine sth 88 (fun hb=>hop_fa_fp fd_26_0 rfl (by first | exact Nat.le_of_ble_eq_true rfl | (simp at hb;first | omega | (dsimp only;omega) | (simp <;> omega)) | omega | (dsimp only;omega))) rfl rfl rfl rfl rfl ?_
 first
 | refine hq_g 90 3 88 false _ (fun hb=>hol_load ty_3 rfl (by first | exact Nat.le_of_ble_eq_true rfl | (simp at hb;first | omega | (dsimp only;omega) | (simp <;> omega)) | omega | (dsimp only;omega)) (by first | exact Nat.le_of_ble_eq_true rfl | (simp at hb;first | omega | (dsimp only;omega) | (simp <;> omega)) | omega | (dsimp only;omega)) (fun h=>(by first | rfl | cases h))) rfl rfl rfl rfl (pre1 rfl) rfl rfl rfl ?_
 | refine hq_g2 90 3 88 _ _ false _ (fun hb=>hol_load ty_3 rfl (by first | exact Nat.le_of_ble_eq_true rfl | (simp at hb;first | omega | (dsimp only;omega) | (simp <;> omega)) | omega | (dsimp only;omega)) (by first | exact Nat.le_of_ble_eq_true rfl | (simp at hb;first | omega | (dsimp only;omega) | (simp <;> omega)) | omega | (dsimp only;omega)) (fun h=>(by first | rfl | cases h))) rfl rfl rfl rfl (pre1 rfl) rfl rfl rfl ?_
 | refine stg 88 (fun hb=>hop_load_fp ty_3 rfl (by first | exact Nat.le_of_ble_eq_true rfl | (simp at hb;first | omega | (dsimp only;omega) | (simp <;> omega)) | omega | (dsimp only;omega)) (fun h=>(by first | rfl | cases h))) rfl rfl rfl rfl rfl ?_
 | refine sth 88 (fun hb=>hop_load_fp ty_3 rfl (by first | exact Nat.le_of_ble_eq_true rfl | (simp at hb;first | omega | (dsimp only;omega) | (simp <;> omega)) | omega | (dsimp only;omega)) (fun h=>(by first | rfl | cases h))) rfl rfl rfl rfl rfl ?_
 first
 | refine stg 88 (fun hb=>hop_eql rfl rfl) rfl rfl rfl rfl rfl ?_
 | refine sth 88 (fun hb=>hop_eql rfl rfl) rfl rfl rfl rfl rfl ?_
 first
 | refine stg 88 (fun hb=>hop_move rfl) rfl rfl rfl rfl rfl ?_
 | refine sth 88 (fun hb=>hop_move rfl) rfl rfl rfl rfl rfl ?_
 first
 | refine stg 92 (fun hb=>hop_fa fd_26_0 rfl) rfl rfl rfl rfl rfl ?_
 | refine hq_g3 93 7 92 88 false false _ _ (fun hb hb2=>hop_fa fd_26_0 rfl) rfl rfl rfl rfl rfl pre0 rfl rfl rfl ?_
 | refine sth 92 (fun hb=>hop_fa fd_26_0 rfl) rfl rfl rfl rfl rfl ?_
 | refine stg 92 (fun hb=>hop_fa_fp fd_26_0 rfl (by first | exact Nat.le_of_ble_eq_true rfl | (simp at hb;first | omega | (dsimp only;omega) | (simp <;> omega)) | omega | (dsimp only;omega))) rfl rfl rfl rfl rfl ?_
 | refine hq_g3 93 7 92 88 false false _ _ (fun hb hb2=>hop_fa_fp fd_26_0 rfl (by first | exact Nat.le_of_ble_eq_true rfl | (simp at hb;omega) | (simp at hb2;omega) | (simp at hb hb2;first | omega | (dsimp only;omega) | (simp <;> omega)) | omega | (dsimp only;omega))) rfl rfl rfl rfl rfl pre0 rfl rfl rfl ?_
 | refine sth 92 (fun hb=>hop_fa_fp fd_26_0 rfl (by first | exact Nat.le_of_ble_eq_true rfl | (simp at hb;first | omega | (dsimp only;omega) | (simp <;> omega)) | omega | (dsimp only;omega))) rfl rfl rfl rfl rfl ?_
 first
 | refine hq_g 94 7 92 false _ (fun hb=>hol_load ty_3 rfl (by first | exact Nat.le_of_ble_eq_true rfl | (simp at hb;first | omega | (dsimp only;omega) | (simp <;> omega)) | omega | (dsimp only;omega)) (by first | exact Nat.le_of_ble_eq_true rfl | (simp at hb;first | omega | (dsimp only;omega) | (simp <;> omega)) | omega | (dsimp only;omega)) (fun h=>(by first | rfl | cases h))) rfl rfl rfl rfl (pre1 rfl) rfl rfl rfl ?_
 | refine hq_g3 94 7 92 88 false false _ _ (fun hb hb2=>hol_load ty_3 rfl (by first | exact Nat.le_of_ble_eq_true rfl | (simp at hb;omega) | (simp at hb2;omega) | (simp at hb hb2;first | omega | (dsimp only;omega) | (simp <;> omega)) | omega | (dsimp only;omega)) (by first | exact Nat.le_of_ble_eq_true rfl | (simp at hb;omega) | (simp at hb2;omega) | (simp at hb hb2;first | omega | (dsimp only;omega) | (simp <;> omega)) | omega | (dsimp only;omega)) (fun h=>(by first | rfl | cases h))) rfl rfl rfl rfl rfl (pre1 rfl) rfl rfl rfl ?_
 | refine hq_g2 94 7 92 _ _ false _ (fun hb=>hol_load ty_3 rfl (by first | exact Nat.le_of_ble_eq_true rfl | (simp at hb;first | omega | (dsimp only;omega) | (simp <;> omega)) | omega | (dsimp only;omega)) (by first | exact Nat.le_of_ble_eq_true rfl | (simp at hb;first | omega | (dsimp only;omega) | (simp <;> omega)) | omega | (dsimp only;omega)) (fun h=>(by first | rfl | cases h))) rfl rfl rfl rfl (pre1 rfl) rfl rfl rfl ?_
 | refine stg 92 (fun hb=>hop_load_fp ty_3 rfl (by first | exact Nat.le_of_ble_eq_true rfl | (simp at hb;first | omega | (dsimp only;omega) | (simp <;> omega)) | omega | (dsimp only;omega)) (fun h=>(by first | rfl | cases h))) rfl rfl rfl rfl rfl ?_
 | refine hq_g3 94 7 92 88 false false _ _ (fun hb hb2=>hop_load_fp ty_3 rfl (by first | exact Nat.le_of_ble_eq_true rfl | (simp at hb;omega) | (simp at hb2;omega) | (simp at hb hb2;first | omega | (dsimp only;omega) | (simp <;> omega)) | omega | (dsimp only;omega)) (fun h=>(by first | rfl | cases h))) rfl rfl rfl rfl rfl pre0 rfl rfl rfl ?_
 | refine sth 92 (fun hb=>hop_load_fp ty_3 rfl (by first | exact Nat.le_of_ble_eq_true rfl | (simp at hb;first | omega | (dsimp only;omega) | (simp <;> omega)) | omega | (dsimp only;omega)) (fun h=>(by first | rfl | cases h))) rfl rfl rfl rfl rfl ?_
 first
 | refine stg 92 (fun hb=>hop_eql rfl rfl) rfl rfl rfl rfl rfl ?_
 | refine hq_g3 95 7 92 88 false false _ _ (fun hb hb2=>hop_eql rfl rfl) rfl rfl rfl rfl rfl pre0 rfl rfl rfl ?_
 | refine sth 92 (fun hb=>hop_eql rfl rfl) rfl rfl rfl rfl rfl ?_
 first
 | refine hq_pg 96 (hstep_andg (gi:=3) (j:=88) _ _ rfl rfl rfl rfl) rfl rfl rfl rfl ?_
 | refine hq_pg 96 (hstep_org (gi:=3) (j:=88) _ _ rfl rfl rfl rfl) rfl rfl rfl rfl ?_
 | refine hq_pg 96 (hstep_pickg (gi:=3) (j:=88) _ _ _ _ rfl rfl rfl rfl (fun _=>.refl _) (fun _=>.refl _)) rfl rfl rfl rfl ?_
 first
 | refine stg 88 (fun hb=>hop_move rfl) rfl rfl rfl rfl rfl ?_
 | refine sth 88 (fun hb=>hop_move rfl) rfl rfl rfl rfl rfl ?_
 first
 | refine stg 97 (fun hb=>hop_fa fd_26_1 rfl) rfl rfl rfl rfl rfl ?_
 | refine hq_g3 98 12 97 88 false true _ _ (fun hb hb2=>hop_fa fd_26_1 rfl) rfl rfl rfl rfl rfl pre0 rfl rfl rfl ?_
 | refine sth 97 (fun hb=>hop_fa fd_26_1 rfl) rfl rfl rfl rfl rfl ?_
 | refine stg 97 (fun hb=>hop_fa_fp fd_26_1 rfl (by first | exact Nat.le_of_ble_eq_true rfl | (simp at hb;first | omega | (dsimp only;omega) | (simp <;> omega)) | omega | (dsimp only;omega))) rfl rfl rfl rfl rfl ?_
 | refine hq_g3 98 12 97 88 false true _ _ (fun hb hb2=>hop_fa_fp fd_26_1 rfl (by first | exact Nat.le_of_ble_eq_true rfl | (simp at hb;omega) | (simp at hb2;omega) | (simp at hb hb2;first | omega | (dsimp only;omega) | (simp <;> omega)) | omega | (dsimp only;omega))) rfl rfl rfl rfl rfl pre0 rfl rfl rfl ?_
 | refine sth 97 (fun hb=>hop_fa_fp fd_26_1 rfl (by first | exact Nat.le_of_ble_eq_true rfl | (simp at hb;first | omega | (dsimp only;omega) | (simp <;> omega)) | omega | (dsimp only;omega))) rfl rfl rfl rfl rfl ?_
 first
 | refine hq_g 99 12 97 true _ (fun hb=>hol_load ty_3 rfl (by first | exact Nat.le_of_ble_eq_true rfl | (simp at hb;first | omega | (dsimp only;omega) | (simp <;> omega)) | omega | (dsimp only;omega)) (by first | exact Nat.le_of_ble_eq_true rfl | (simp at hb;first | omega | (dsimp only;omega) | (simp <;> omega)) | omega | (dsimp only;omega)) (fun h=>(by first | rfl | cases h))) rfl rfl rfl rfl (pre1 rfl) rfl rfl rfl ?_
 | refine hq_g3 99 12 97 88 false true _ _ (fun hb hb2=>hol_load ty_3 rfl (by first | exact Nat.le_of_ble_eq_true rfl | (simp at hb;omega) | (simp at hb2;omega) | (simp at hb hb2;first | omega | (dsimp only;omega) | (simp <;> omega)) | omega | (dsimp only;omega)) (by first | exact Nat.le_of_ble_eq_true rfl | (simp at hb;omega) | (simp at hb2;omega) | (simp at hb hb2;first | omega | (dsimp only;omega) | (simp <;> omega)) | omega | (dsimp only;omega)) (fun h=>(by first | rfl | cases h))) rfl rfl rfl rfl rfl (pre1 rfl) rfl rfl rfl ?_
 | refine hq_g2 99 12 97 _ _ true _ (fun hb=>hol_load ty_3 rfl (by first | exact Nat.le_of_ble_eq_true rfl | (simp at hb;first | omega | (dsimp only;omega) | (simp <;> omega)) | omega | (dsimp only;omega)) (by first | exact Nat.le_of_ble_eq_true rfl | (simp at hb;first | omega | (dsimp only;omega) | (simp <;> omega)) | omega | (dsimp only;omega)) (fun h=>(by first | rfl | cases h))) rfl rfl rfl rfl (pre1 rfl) rfl rfl rfl ?_
 | refine stg 97 (fun hb=>hop_load_fp ty_3 rfl (by first | exact Nat.le_of_ble_eq_true rfl | (simp at hb;first | omega | (dsimp only;omega) | (simp <;> omega)) | omega | (dsimp only;omega)) (fun h=>(by first | rfl | cases h))) rfl rfl rfl rfl rfl ?_
 | refine hq_g3 99 12 97 88 false true _ _ (fun hb hb2=>hop_load_fp ty_3 rfl (by first | exact Nat.le_of_ble_eq_true rfl | (simp at hb;omega) | (simp at hb2;omega) | (simp at hb hb2;first | omega | (dsimp only;omega) | (simp <;> omega)) | omega | (dsimp only;omega)) (fun h=>(by first | rfl | cases h))) rfl rfl rfl rfl rfl pre0 rfl rfl rfl ?_
 | refine sth 97 (fun hb=>hop_load_fp ty_3 rfl (by first | exact Nat.le_of_ble_eq_true rfl | (simp at hb;first | omega | (dsimp only;omega) | (simp <;> omega)) | omega | (dsimp only;omega)) (fun h=>(by first | rfl | cases h))) rfl rfl rfl rfl rfl ?_
 first
 | refine stg 97 (fun hb=>hop_fa fd_26_2 rfl) rfl rfl rfl rfl rfl ?_
 | refine hq_g3 100 12 97 88 false true _ _ (fun hb hb2=>hop_fa fd_26_2 rfl) rfl rfl rfl rfl rfl pre0 rfl rfl rfl ?_
 | refine sth 97 (fun hb=>hop_fa fd_26_2 rfl) rfl rfl rfl rfl rfl ?_
 | refine stg 97 (fun hb=>hop_fa_fp fd_26_2 rfl (by first | exact Nat.le_of_ble_eq_true rfl | (simp at hb;first | omega | (dsimp only;omega) | (simp <;> omega)) | omega | (dsimp only;omega))) rfl rfl rfl rfl rfl ?_
 | refine hq_g3 100 12 97 88 false true _ _ (fun hb hb2=>hop_fa_fp fd_26_2 rfl (by first | exact Nat.le_of_ble_eq_true rfl | (simp at hb;omega) | (simp at hb2;omega) | (simp at hb hb2;first | omega | (dsimp only;omega) | (simp <;> omega)) | omega | (dsimp only;omega))) rfl rfl rfl rfl rfl pre0 rfl rfl rfl ?_
 | refine sth 97 (fun hb=>hop_fa_fp fd_26_2 rfl (by first | exact Nat.le_of_ble_eq_true rfl | (simp at hb;first | omega | (dsimp only;omega) | (simp <;> omega)) | omega | (dsimp only;omega))) rfl rfl rfl rfl rfl ?_
 first
 | refine hq_g 101 12 97 true _ (fun hb=>hol_load ty_3 rfl (by first | exact Nat.le_of_ble_eq_true rfl | (simp at hb;first | omega | (dsimp only;omega) | (simp <;> omega)) | omega | (dsimp only;omega)) (by first | exact Nat.le_of_ble_eq_true rfl | (simp at hb;first | omega | (dsimp only;omega) | (simp <;> omega)) | omega | (dsimp only;omega)) (fun h=>(by first | rfl | cases h))) rfl rfl rfl rfl (pre1 rfl) rfl rfl rfl ?_
 | refine hq_g3 101 12 97 88 false true _ _ (fun hb hb2=>hol_load ty_3 rfl (by first | exact Nat.le_of_ble_eq_true rfl | (simp at hb;omega) | (simp at hb2;omega) | (simp at hb hb2;first | omega | (dsimp only;omega) | (simp <;> omega)) | omega | (dsimp only;omega)) (by first | exact Nat.le_of_ble_eq_true rfl | (simp at hb;omega) | (simp at hb2;omega) | (simp at hb hb2;first | omega | (dsimp only;omega) | (simp <;> omega)) | omega | (dsimp only;omega)) (fun h=>(by first | rfl | cases h))) rfl rfl rfl rfl rfl (pre1 rfl) rfl rfl rfl ?_
 | refine hq_g2 101 12 97 _ _ true _ (fun hb=>hol_load ty_3 rfl (by first | exact Nat.le_of_ble_eq_true rfl | (simp at hb;first | omega | (dsimp only;omega) | (simp <;> omega)) | omega | (dsimp only;omega)) (by first | exact Nat.le_of_ble_eq_true rfl | (simp at hb;first | omega | (dsimp only;omega) | (simp <;> omega)) | omega | (dsimp only;omega)) (fun h=>(by first | rfl | cases h))) rfl rfl rfl rfl (pre1 rfl) rfl rfl rfl ?_
 | refine stg 97 (fun hb=>hop_load_fp ty_3 rfl (by first | exact Nat.le_of_ble_eq_true rfl | (simp at hb;first | omega | (dsimp only;omega) | (simp <;> omega)) | omega | (dsimp only;omega)) (fun h=>(by first | rfl | cases h))) rfl rfl rfl rfl rfl ?_
 | refine hq_g3 101 12 97 88 false true _ _ (fun hb hb2=>hop_load_fp ty_3 rfl (by first | exact Nat.le_of_ble_eq_true rfl | (simp at hb;omega) | (simp at hb2;omega) | (simp at hb hb2;first | omega | (dsimp only;omega) | (simp <;> omega)) | omega | (dsimp only;omega)) (fun h=>(by first | rfl | cases h))) rfl rfl rfl rfl rfl pre0 rfl rfl rfl ?_
 | refine sth 97 (fun hb=>hop_load_fp ty_3 rfl (by first | exact Nat.le_of_ble_eq_true rfl | (simp at hb;first | omega | (dsimp only;omega) | (simp <;> omega)) | omega | (dsimp only;omega)) (fun h=>(by first | rfl | cases h))) rfl rfl rfl rfl rfl ?_
 first
 | refine stg 97 (fun hb=>hop_eql rfl rfl) rfl rfl rfl rfl rfl ?_
 | refine hq_g3 102 12 97 88 false true _ _ (fun hb hb2=>hop_eql rfl rfl) rfl rfl rfl rfl rfl pre0 rfl rfl rfl ?_
 | refine sth 97 (fun hb=>hop_eql rfl rfl) rfl rfl rfl rfl rfl ?_
 first
 | refine hq_pg 103 (hstep_andg (gi:=3) (j:=88) _ _ rfl rfl rfl rfl) rfl rfl rfl rfl ?_
 | refine hq_pg 103 (hstep_org (gi:=3) (j:=88) _ _ rfl rfl rfl rfl) rfl rfl rfl rfl ?_
 | refine hq_pg 103 (hstep_pickg (gi:=3) (j:=88) _ _ _ _ rfl rfl rfl rfl (fun _=>.refl _) (fun _=>.refl _)) rfl rfl rfl rfl ?_
 first
 | refine hq_p 104 (hstep_and _ _ rfl rfl rfl) rfl rfl rfl ?_
 | refine hq_p 104 (hstep_or _ _ rfl rfl rfl) rfl rfl rfl ?_
 | refine hq_p 104 (hstep_ite _ _ _ rfl rfl rfl) rfl rfl rfl ?_
 | refine hq_p 104 (hstep_pick _ _ _ _ rfl rfl rfl (fun _=>.refl _) (fun _=>.refl _)) rfl rfl rfl ?_
 refine sa ?_
 refine nu ?_
 refine h21 _<|srg fun N h22=>sm<|sm ?_
 refine s0 (hop_not rfl) ?_
 refine s0 (hop_beq (fun w=>by kernel_rfl) rfl rfl) ?_
 refine sm ?_
 first
 | refine stg 109 (fun hb=>hop_move rfl) rfl rfl rfl rfl rfl ?_
 | refine sth 109 (fun hb=>hop_move rfl) rfl rfl rfl rfl rfl ?_
 first
 | refine stg 109 (fun hb=>hop_move rfl) rfl rfl rfl rfl rfl ?_
 | refine sth 109 (fun hb=>hop_move rfl) rfl rfl rfl rfl rfl ?_
 first
 | refine hq_g 112 6 111 false _ (fun hb=>hol_load ty_26 rfl (by first | exact Nat.le_of_ble_eq_true rfl | (simp at hb;first | omega | (dsimp only;omega) | (simp <;> omega)) | omega | (dsimp only;omega)) (by first | exact Nat.le_of_ble_eq_true rfl | (simp at hb;first | omega | (dsimp only;omega) | (simp <;> omega)) | omega | (dsimp only;omega)) (fun h=>(by first | rfl | cases h))) rfl rfl rfl rfl (pre1 rfl) rfl rfl rfl ?_
 | refine hq_g3 112 6 111 109 true false _ _ (fun hb hb2=>hol_load ty_26 rfl (by first | exact Nat.le_of_ble_eq_true rfl | (simp at hb;omega) | (simp at hb2;omega) | (simp at hb hb2;first | omega | (dsimp only;omega) | (simp <;> omega)) | omega | (dsimp only;omega)) (by first | exact Nat.le_of_ble_eq_true rfl | (simp at hb;omega) | (simp at hb2;omega) | (simp at hb hb2;first | omega | (dsimp only;omega) | (simp <;> omega)) | omega | (dsimp only;omega)) (fun h=>(by first | rfl | cases h))) rfl rfl rfl rfl rfl (pre1 rfl) rfl rfl rfl ?_
 | refine hq_g2 112 6 111 _ _ false _ (fun hb=>hol_load ty_26 rfl (by first | exact Nat.le_of_ble_eq_true rfl | (simp at hb;first | omega | (dsimp only;omega) | (simp <;> omega)) | omega | (dsimp only;omega)) (by first | exact Nat.le_of_ble_eq_true rfl | (simp at hb;first | omega | (dsimp only;omega) | (simp <;> omega)) | omega | (dsimp only;omega)) (fun h=>(by first | rfl | cases h))) rfl rfl rfl rfl (pre1 rfl) rfl rfl rfl ?_
 | refine stg 111 (fun hb=>hop_load_fp ty_26 rfl (by first | exact Nat.le_of_ble_eq_true rfl | (simp at hb;first | omega | (dsimp only;omega) | (simp <;> omega)) | omega | (dsimp only;omega)) (fun h=>(by first | rfl | cases h))) rfl rfl rfl rfl rfl ?_
 | refine hq_g3 112 6 111 109 true false _ _ (fun hb hb2=>hop_load_fp ty_26 rfl (by first | exact Nat.le_of_ble_eq_true rfl | (simp at hb;omega) | (simp at hb2;omega) | (simp at hb hb2;first | omega | (dsimp only;omega) | (simp <;> omega)) | omega | (dsimp only;omega)) (fun h=>(by first | rfl | cases h))) rfl rfl rfl rfl rfl pre0 rfl rfl rfl ?_
 | refine sth 111 (fun hb=>hop_load_fp ty_26 rfl (by first | exact Nat.le_of_ble_eq_true rfl | (simp at hb;first | omega | (dsimp only;omega) | (simp <;> omega)) | omega | (dsimp only;omega)) (fun h=>(by first | rfl | cases h))) rfl rfl rfl rfl rfl ?_
 first
 | refine hq_g 113 6 111 false _ (fun hb=>hol_load ty_26 rfl (by first | exact Nat.le_of_ble_eq_true rfl | (simp at hb;first | omega | (dsimp only;omega) | (simp <;> omega)) | omega | (dsimp only;omega)) (by first | exact Nat.le_of_ble_eq_true rfl | (simp at hb;first | omega | (dsimp only;omega) | (simp <;> omega)) | omega | (dsimp only;omega)) (fun h=>(by first | rfl | cases h))) rfl rfl rfl rfl (pre1 rfl) rfl rfl rfl ?_
 | refine hq_g3 113 6 111 109 true false _ _ (fun hb hb2=>hol_load ty_26 rfl (by first | exact Nat.le_of_ble_eq_true rfl | (simp at hb;omega) | (simp at hb2;omega) | (simp at hb hb2;first | omega | (dsimp only;omega) | (simp <;> omega)) | omega | (dsimp only;omega)) (by first | exact Nat.le_of_ble_eq_true rfl | (simp at hb;omega) | (simp at hb2;omega) | (simp at hb hb2;first | omega | (dsimp only;omega) | (simp <;> omega)) | omega | (dsimp only;omega)) (fun h=>(by first | rfl | cases h))) rfl rfl rfl rfl rfl (pre1 rfl) rfl rfl rfl ?_
 | refine hq_g2 113 6 111 _ _ false _ (fun hb=>hol_load ty_26 rfl (by first | exact Nat.le_of_ble_eq_true rfl | (simp at hb;first | omega | (dsimp only;omega) | (simp <;> omega)) | omega | (dsimp only;omega)) (by first | exact Nat.le_of_ble_eq_true rfl | (simp at hb;first | omega | (dsimp only;omega) | (simp <;> omega)) | omega | (dsimp only;omega)) (fun h=>(by first | rfl | cases h))) rfl rfl rfl rfl (pre1 rfl) rfl rfl rfl ?_
 | refine stg 111 (fun hb=>hop_load_fp ty_26 rfl (by first | exact Nat.le_of_ble_eq_true rfl | (simp at hb;first | omega | (dsimp only;omega) | (simp <;> omega)) | omega | (dsimp only;omega)) (fun h=>(by first | rfl | cases h))) rfl rfl rfl rfl rfl ?_
 | refine hq_g3 113 6 111 109 true false _ _ (fun hb hb2=>hop_load_fp ty_26 rfl (by first | exact Nat.le_of_ble_eq_true rfl | (simp at hb;omega) | (simp at hb2;omega) | (simp at hb hb2;first | omega | (dsimp only;omega) | (simp <;> omega)) | omega | (dsimp only;omega)) (fun h=>(by first | rfl | cases h))) rfl rfl rfl rfl rfl pre0 rfl rfl rfl ?_
 | refine sth 111 (fun hb=>hop_load_fp ty_26 rfl (by first | exact Nat.le_of_ble_eq_true rfl | (simp at hb;first | omega | (dsimp only;omega) | (simp <;> omega)) | omega | (dsimp only;omega)) (fun h=>(by first | rfl | cases h))) rfl rfl rfl rfl rfl ?_
 first
 | refine stg 111 (fun hb=>hop_call0 (xs:=[_,_]) (same25q_h ((byV (routeV [] []) s).getD St.none) s (by rw [byV_nil];split <;> first | exact ls | exact ⟨Nat.zero_le _,Nat.zero_le _⟩) ls) ⟨rfl,⟨rfl,trivial⟩⟩ ⟨(Fz.eq rfl),⟨(Fz.eq rfl),trivial⟩⟩) rfl rfl rfl rfl rfl ?_
 | refine hq_g3 114 6 111 109 true false _ _ (fun hb hb2=>hop_call0 (xs:=[_,_]) (same25q_h ((byV (routeV [] []) s).getD St.none) s (by rw [byV_nil];split <;> first | exact ls | exact ⟨Nat.zero_le _,Nat.zero_le _⟩) ls) ⟨rfl,⟨rfl,trivial⟩⟩ ⟨(Fz.eq rfl),⟨(Fz.eq rfl),trivial⟩⟩) rfl rfl rfl rfl rfl pre0 rfl rfl rfl ?_
 | refine sth 111 (fun hb=>hop_call0 (xs:=[_,_]) (same25q_h ((byV (routeV [] []) s).getD St.none) s (by rw [byV_nil];split <;> first | exact ls | exact ⟨Nat.zero_le _,Nat.zero_le _⟩) ls) ⟨rfl,⟨rfl,trivial⟩⟩ ⟨(Fz.eq rfl),⟨(Fz.eq rfl),trivial⟩⟩) rfl rfl rfl rfl rfl ?_
 first
 | refine hq_pg 115 (hstep_andg (gi:=4) (j:=109) _ _ rfl rfl rfl rfl) rfl rfl rfl rfl ?_
 | refine hq_pg 115 (hstep_org (gi:=4) (j:=109) _ _ rfl rfl rfl rfl) rfl rfl rfl rfl ?_
 | refine hq_pg 115 (hstep_pickg (gi:=4) (j:=109) _ _ _ _ rfl rfl rfl rfl (fun _=>.refl _) (fun _=>.refl _)) rfl rfl rfl rfl ?_
 first
 | refine hq_p 116 (hstep_and _ _ rfl rfl rfl) rfl rfl rfl ?_
 | refine hq_p 116 (hstep_or _ _ rfl rfl rfl) rfl rfl rfl ?_
 | refine hq_p 116 (hstep_ite _ _ _ rfl rfl rfl) rfl rfl rfl ?_
 | refine hq_p 116 (hstep_pick _ _ _ _ rfl rfl rfl (fun _=>.refl _) (fun _=>.refl _)) rfl rfl rfl ?_
 refine sm ?_
 first
 | refine stg 117 (fun hb=>hop_call0 (xs:=[]) (live26_h) trivial trivial) rfl rfl rfl rfl rfl ?_
 | refine sth 117 (fun hb=>hop_call0 (xs:=[]) (live26_h) trivial trivial) rfl rfl rfl rfl rfl ?_
 first
 | refine hq_p 119 (hstep_and _ _ rfl rfl rfl) rfl rfl rfl ?_
 | refine hq_p 119 (hstep_or _ _ rfl rfl rfl) rfl rfl rfl ?_
 | refine hq_p 119 (hstep_ite _ _ _ rfl rfl rfl) rfl rfl rfl ?_
 | refine hq_p 119 (hstep_pick _ _ _ _ rfl rfl rfl (fun _=>.refl _) (fun _=>.refl _)) rfl rfl rfl ?_
 refine sa ?_
 refine nu ?_
 refine h22 _<|hw_ret ?_
 refine hq_ret1 rfl (rval_tmp rfl) [] rfl pre0 ?_
 exact Fz.eq (congrArg (fun b=>boolV b) (fin_ok s))
end Go.Proofs.Ytkcfhciffdnmmaa
namespace Go.Proofs.Ytkcfhciffdnmmaa
theorem libW_none (w:World):LibW w where
 ok b hb:=by
  obtain ⟨n,hn,hg⟩:=hb
  have h1:(libNames.all fun n=>(Try.prog.globalNamed n).isNone)=true:=by kernel_rfl
  have:=List.all_eq_true.1 h1 n hn
  rw [hg] at this;cases this
 tab h:=by
  have h1:(Try.prog.globalNamed "internal/strconv.uint64pow10").isSome=false:=by kernel_rfl
  unfold hasLib at h;rw [h1] at h;cases h
 syn h:=by
  have h1:(Try.prog.globalNamed "strconv.ErrSyntax").isSome=false:=by kernel_rfl
  unfold hasLib at h;rw [h1] at h;cases h
 rng h:=by
  have h1:(Try.prog.globalNamed "strconv.ErrRange").isSome=false:=by kernel_rfl
  unfold hasLib at h;rw [h1] at h;cases h
 max g hg:=by
  have h1:(Try.prog.globalNamed "internal/bytealg.MaxLen").isNone=true:=by kernel_rfl
  rw [hg] at h1;cases h1
 dbt h:=by
  have h1:(Try.prog.globalNamed "math/bits.deBruijn64tab").isSome=false:=by kernel_rfl
  unfold hasLib at h;rw [h1] at h;cases h
end Go.Proofs.Ytkcfhciffdnmmaa
namespace Go.Proofs.Ytkcfhciffdnmmaa
set_option linter.unusedSimpArgs false
set_option linter.unusedVariables false
open Go.RowKit
def okRg (r:Rg):Prop:=okInt r.at_∧okInt r.old∧okInt r.new
set_option maxRecDepth 100000 in
theorem el_rg {H:Type} {encH:TypeId×Value→H} {w:World} {base:Nat} {spare:Nat→Bool} {held:Bool} (m:Nat) (cs:List Value) (y:DataW H×List MemPlace) (h:DataW.trod encH Try.prog w base spare held m 88 cs=some y):∃ t:Rg,cs=t.cells∧okRg t:=by
  obtain ⟨xs,k,_,_,hlen,hxl,hx⟩:=DataW.trod_struct Try.underlying88 h
  have hC:Try.prog.cellsOf 88=3:=by kernel_rfl
  have hI:Try.prog.cellsOf 3=1:=by kernel_rfl
  rw [hC] at hlen
  match cs,hlen,xs,hxl with
  | [c0, c1, c2], _, [x0, x1, x2], _ =>
    have f0:DataW.trod encH Try.prog w base spare held k 3 (([c0,c1,c2].drop 0).take (Try.prog.cellsOf 3))=[x0,x1,x2][0]?:=hx 0 _ rfl
    have f1:DataW.trod encH Try.prog w base spare held k 3 (([c0,c1,c2].drop 1).take (Try.prog.cellsOf 3))=[x0,x1,x2][1]?:=hx 1 _ rfl
    have f2:DataW.trod encH Try.prog w base spare held k 3 (([c0,c1,c2].drop 2).take (Try.prog.cellsOf 3))=[x0,x1,x2][2]?:=hx 2 _ rfl
    rw [hI] at f0 f1 f2
    obtain ⟨a0,h0,_,w0⟩:=DataW.trod_int Try.underlying3 f0
    obtain ⟨a1,h1,_,w1⟩:=DataW.trod_int Try.underlying3 f1
    obtain ⟨a2,h2,_,w2⟩:=DataW.trod_int Try.underlying3 f2
    simp at h0 h1 h2
    subst h0;subst h1;subst h2
    exact ⟨⟨a0,a1,a2⟩,rfl,w0,w1,w2⟩
theorem rep_rgs {w:World} {B:Nat} {A:Option Addr} {c:Nat} {l:List Rg} (h:Sl w B 3 Rg.cells A l) (hc:l.length≤c) (hm:c≤maxLen):Rep w (Env.just (allF w)) (.slice A l.length c) (rgsV l) :=
 rep_sl 3 (by omega) Rg.cells rg_one rgF default l hc hm h (fun i j _ hj=>by rw [rgF_imm _ _ hj];exact .imm _)
theorem rep_stp {w:World} {x:Stp} (h:x.inOk w):Rep w (Env.just (allF w)) (.agg x.cells.toArray) (stV x.v):=by
  obtain ⟨⟨e1,e2,s1,s2,o1,o2⟩,m1,m2,_⟩:=h
  obtain ⟨v,a1,n1,c1,a2,n2,c2⟩:=x
  simp only at e1 e2 s1 s2 o1 o2 m1 m2
  subst e1;subst e2
  refine .agg _ 10 _ (fun i=>(Stp.cells ⟨v,a1,v.sl.length,c1,a2,v.sets.length,c2⟩).getD i undef) (by simp [Stp.cells]) (fun i hi=>?_) (fun i hi=>?_)
  · match i, hi with
    | 0,_=>exact ⟨rfl,rfl⟩ | 1,_=>exact ⟨rfl,rfl⟩ | 2,_=>exact ⟨rfl,rfl⟩ | 3,_=>exact ⟨rfl,rfl⟩ | 4,_=>exact ⟨rfl,rfl⟩
    | 5,_=>exact ⟨rfl,rfl⟩ | 6,_=>exact ⟨rfl,rfl⟩ | 7,_=>exact ⟨rfl,rfl⟩ | 8,_=>exact ⟨rfl,rfl⟩ | 9,_=>exact ⟨rfl,rfl⟩
  · match i, hi with
    | 0,_=>exact .imm _ | 1,_=>exact .imm _ | 2,_=>exact .imm _ | 3,_=>exact .imm _ | 4,_=>exact .imm _ | 5,_=>exact .imm _ | 6,_=>exact .imm _ | 7,_=>exact .imm _
    | 8,_=>exact rep_toks s1 o1 (by unfold maxLen;omega)
    | 9,_=>exact rep_mkss s2 o2 (by unfold maxLen;omega)
theorem ShiftOver_walk (w:World) (s0:Stp) (k0:s0.inOk w) (s1:Stp) (k1:s1.inOk w) (a2:Option Addr) (n2 c2:Nat) (l2:List Rg) (hn2:l2.length=n2) (sl2:Sl w w.heap.size 3 Rg.cells a2 l2) (hc2:n2≤c2) (hm2:c2≤9223372036854775807) (ok2:∀ x∈l2,okRg x) :
  Calls Try.prog 5 #[.agg s0.cells.toArray,.agg s1.cells.toArray,.slice a2 n2 c2] w fun e w'=>e=.returned (.bool true)∧Below w.heap.size w w':=by
 subst hn2
 exact law_walk (shiftOver_h s0.v s1.v l2) w [.agg s0.cells.toArray,.agg s1.cells.toArray,.slice a2 l2.length c2] ⟨rep_stp k0,rep_stp k1,rep_rgs sl2 hc2 (by unfold maxLen;omega),trivial⟩ (libW_none w)
end Go.Proofs.Ytkcfhciffdnmmaa
