/-
  Routes, walked (printed by tools/gen_sm4.py).
-/
import Derived.Test.YtkcfhciffdnmmaaCloneR
import Derived.Test.YtkcfhciffdnmmaaSmV
import Derived.Deep.Cut
import Derived.Deep.DeepCutAuto
namespace Go.Proofs.Ytkcfhciffdnmmaa
set_option linter.unusedSimpArgs false
set_option linter.unusedVariables false
set_option maxRecDepth 100000
set_option maxHeartbeats 1000000
open Go.RowKit
@[reducible] def intK:Int→Value:=fun x=>Value.int .i64 x
@[reducible] def mirE (mir:List (Int×Int)):List (Int×Value):=mir.map (fun p=>(p.1,Value.int .i64 p.2))
theorem keyMir:KeyOk Try.prog 42 Int intK (.int .i64 0):=keyOk_int (kt:=3) (et:=3) (by kernel_rfl) (by kernel_rfl) (fun w=>by kernel_rfl)
theorem mfind_mir (i:Int):∀ (mir:List (Int×Int)) (k:Nat),(mfind i (mirE mir) k).map (·.2)=(lkI mir i).map (fun x=>Value.int .i64 x)
  | [],k=>rfl
  | p :: r, k => by
    show (if i=p.1 then some (k,Value.int .i64 p.2) else mfind i (mirE r) (k+1)).map (·.2)=(if i=p.1 then some p.2 else lkI r i).map (fun x=>Value.int .i64 x)
    by_cases e:i=p.1
    · rw [if_pos e,if_pos e];rfl
    · rw [if_neg e,if_neg e];exact mfind_mir i r (k+1)
theorem lkV_mir (mir:List (Int×Int)) (i:Int):lkV true (mget (mirE mir) i) (.int .i64 0)=optI (lkI mir i):=by
 unfold mget
 rw [mfind_mir]
 cases lkI mir i <;> rfl
theorem lkV_none (i:Int):lkV true none (.int .i64 0)=optI (lkI [] i):=rfl
def rtF (a b:HV):Nat→Nat→HV:=fun _ j=>match j with | 0=>a | _=>b
@[reducible] def rtO (g:Nat) (a b:HV):HObj:=⟨g,1,2,44,0,rtF a b⟩
@[reducible] def mpsF (L:List (List Rg)):Nat→Nat→HV:=fun i _=>rgsV (L.getD i [])
@[reducible] def mpsO (g:Nat) (L:List (List Rg)):HObj:=⟨g,L.length,1,48,0,mpsF L⟩
@[reducible] def mirO (g:Nat) (mir:List (Int×Int)):HObj:=mapO g (encL intK (mirE mir))
theorem okz_map {kp sh:List (Nat×HObj)} {g:Nat} {l:List (Value×Value)}:OKz kp sh (mapO g l) (mapO g l):=⟨rfl,rfl,rfl,rfl,Nat.le_refl _,fun i j hi=>absurd hi (Nat.not_lt_zero _),fun _=>rfl⟩
theorem okz_mps {kp sh:List (Nat×HObj)} {g:Nat} {L:List (List Rg)}:OKz kp sh (mpsO g L) (mpsO g L):=.of fun i j hi hj=>.fz _ _ (show Fz _ (rgsV _) (rgsV _) from Frz.fz)
theorem okz_rtN {kp sh:List (Nat×HObj)} {g g2 n n':Nat} {F:Nat→Nat→HV} {o2:HObj} (h0:F 0 0=.os 9102 g2 0 n) (h1:F 0 1=.imm (.map none)) (hn:n=n') (h2:hget kp 9102=some o2) (e2:o2.g=g2):OKz kp sh ⟨g,1,2,44,0,F⟩ (rtO g (.os 9102 g2 0 n') (.imm (.map none))):=.of fun i j hi hj=>by
 obtain rfl:i=0:=by omega
 subst hn
 match j,hj with
 | 0,_=>rw [h0];exact .os _ _ _ _ _ h2 e2
 | 1,_=>rw [h1];exact .fz _ _ (.imm _)
theorem okz_rtM {kp sh:List (Nat×HObj)} {g g2 g3 n n':Nat} {F:Nat→Nat→HV} {o2 o3:HObj} (h0:F 0 0=.os 9102 g2 0 n) (h1:F 0 1=.mp 9103 g3) (hn:n=n') (h2:hget kp 9102=some o2) (e2:o2.g=g2) (h3:hget kp 9103=some o3) (e3:o3.g=g3):OKz kp sh ⟨g,1,2,44,0,F⟩ (rtO g (.os 9102 g2 0 n') (.mp 9103 g3)):=.of fun i j hi hj=>by
 obtain rfl:i=0:=by omega
 subst hn
 match j,hj with
 | 0,_=>rw [h0];exact .os _ _ _ _ _ h2 e2
 | 1,_=>rw [h1];exact .mp _ _ _ h3 e3
theorem kz_optI {kp sh:List (Nat×HObj)} (o:Option Int):Kz kp sh (optI o) (optI o):=.fz _ _ (fz_t2 (.imm _) (.imm _))
@[reducible] def recI (q:Int×Int×Bool):HV:=t3 (intV q.1) (intV q.2.1) (boolV q.2.2)
theorem kz_recI {kp sh:List (Nat×HObj)} {a b:Int} {z:Bool} {q:Int×Int×Bool} (h:q=(a,b,z)):Kz kp sh (t3 (intV a) (intV b) (boolV z)) (recI q):=by
 subst h
 exact .fz _ _ (.tup _ _ _ fun i hi=>by match i,hi with | 0,_=>exact .imm _ | 1,_=>exact .imm _ | 2,_=>exact .imm _)
theorem ofV_bd {L:List (List Rg)} {mir:List (Int×Int)} (hok:RtOk L mir) {i k:Int} (h:ofV L.length mir i=some k):0≤k∧k < L.length∧k≠i:=by
 unfold ofV at h
 split at h
 ·cases h
 ·exact hok.2 i k h
theorem rgF_imm (t:Rg) (j:Nat) (h:j < 3):rgF t j=.imm (t.cells.getD j undef):=by
 match j,h with | 0,_=>rfl | 1,_=>rfl | 2,_=>rfl
theorem cloneR_h (m:List Rg) (hl:m.length≤1000000):HPure Try.prog 45 [rgsV m] (rgsV m):=by
 refine ⟨⟨_,_,Try.func45,rfl,by kernel_rfl⟩,fun w F vs hF hr hw=>?_⟩
 obtain ⟨v,rfl,hv⟩:=rep1 hr
 obtain ⟨A,c,rfl,hc,hm,hs⟩:=sl_of 3 Rg.cells Rg.cells_length rgF rgF_imm default m hv
 refine (Clone_rg A _ c _ m w rfl hs (Nat.le_refl _) (by omega)).mono fun en w' hg=>?_
 exact gives_pure hF rgF rgF_imm rg_one default hg
theorem okz_mpsS {kp sh:List (Nat×HObj)} {g:Nat} {L L':List (List Rg)} {m:List Rg} (hL:L'=L++[m]):OKz kp sh ⟨g,L.length+1,1,48,0,cat L.length (mpsF L) (bsf [rgsV m])⟩ (mpsO g L'):=by
 subst hL
 refine ⟨rfl,by simp,rfl,rfl,Nat.le_refl _,fun i j hi hj=>.fz _ _ ?_,fun h=>absurd h (Nat.not_lt_zero _)⟩
 have hj:j < 1:=hj
 obtain rfl:j=0:=by omega
 have hi:i < L.length+1:=hi
 show Fz sh (cat L.length (mpsF L) (bsf [rgsV m]) i 0) (rgsV ((L++[m]).getD i []))
 by_cases h:i < L.length
 ·rw [cat_lt h,List.getD_eq_getElem?_getD (l:=L++[m]),List.getElem?_append_left h,←List.getD_eq_getElem?_getD]
  exact (show Fz sh (rgsV _) (rgsV _) from Frz.fz)
 ·obtain rfl:i=L.length:=by omega
  rw [cat_ge (Nat.le_refl _),Nat.sub_self,List.getD_eq_getElem?_getD,List.getElem?_append_right (Nat.le_refl _),Nat.sub_self]
  exact (show Fz sh (rgsV m) (rgsV m) from Frz.fz)
theorem lenN_h (g g2:Nat) (L:List (List Rg)):HFunD Try.prog 71 [.pt 9101 g 0 0] [(9101,rtO g (.os 9102 g2 0 L.length) (.imm (.map none))),(9102,mpsO g2 L)] (intV (L.length:Int)) [(9101,rtO g (.os 9102 g2 0 L.length) (.imm (.map none))),(9102,mpsO g2 L)]:=by
 intro c
 refine hfun_of Try.func71 rfl kr _ _ _ _ rfl 10 rfl rfl (fun X ok hX=>?_)
 refine srg fun N h1=>sa<|snl h1<|hw_seq fun Nh2 h2=>srg fun N h3=>sm ?_
 first
 | refine hq_ 4 (hop_eql_ptn (by kernel_rfl) rfl rfl) rfl rfl pre0 rfl rfl ?_
 | refine hq_ 4 (hop_eql_fpn (by kernel_rfl) rfl rfl) rfl rfl pre0 rfl rfl ?_
 | refine hq_ 4 (hop_eql_nnp (by kernel_rfl) rfl rfl) rfl rfl pre0 rfl rfl ?_
 | refine hq_ 4 (hop_eql_fp rfl rfl rfl) rfl rfl pre0 rfl rfl ?_
 | refine hq_ 4 (hop_eql_pn rfl rfl rfl) rfl rfl pre0 rfl rfl ?_
 refine snl h3 ?_
 refine wc (fun hc0=>?_) (fun hc0=>?_)
 ·have hr0:=hc0;(try simp only [hcs,Int.reduceToNat] at hc0)
  exfalso;simp at hr0
 have hr0:=hc0;(try simp only [hcs,Int.reduceToNat] at hc0)
 refine hw_skip<|h2 _<|srg fun N h4=>sm ?_
 first
 | refine hq_ 6 (hop_nilcheck_pt rfl) rfl rfl pre0 rfl rfl ?_
 | refine hq_ 6 (hop_nilcheck_fp rfl) rfl rfl pre0 rfl rfl ?_
 first
 | refine hq_ 7 (hop_fa fd_44_0 rfl) rfl rfl pre0 rfl rfl ?_
 | refine hq_ 7 (hop_fa_fp fd_44_0 rfl (by first | exact Nat.le_of_ble_eq_true rfl | omega | (dsimp only;omega) | (simp <;> omega))) rfl rfl pre0 rfl rfl ?_
 first
 | refine hq_ 8 (hol_load ty_41 rfl (by first | exact Nat.le_of_ble_eq_true rfl | omega | (dsimp only;omega) | (simp <;> omega)) (by first | exact Nat.le_of_ble_eq_true rfl | omega | (dsimp only;omega) | (simp <;> omega)) (fun h=>(by first | rfl | cases h))) rfl rfl (pre1 rfl) rfl rfl ?_
 | refine hq_ 8 (hop_load_fp ty_41 rfl (by first | exact Nat.le_of_ble_eq_true rfl | omega | (dsimp only;omega) | (simp <;> omega)) (fun h=>(by first | rfl | cases h))) rfl rfl pre0 rfl rfl ?_
 first
 | refine hq_ 9 (hop_len_sl (T:=41) rfl (elOf_spec el_41).1 rfl) rfl rfl pre0 rfl rfl ?_
 | refine hq_ 9 (hop_len_os (T:=41) rfl (elOf_spec el_41).1 rfl) rfl rfl pre0 rfl rfl ?_
 | refine hq_ 9 (hop_len_nil (T:=41) rfl (elOf_spec el_41).1 rfl) rfl rfl pre0 rfl rfl ?_
 refine sa<|snl h4<|hw_ret ?_
 refine hf_retR1 ok hX RetS.one rfl (rval_tmp rfl) [] rfl pre0 (()) (trivial) (by rfl) (by rfl) (kza) ?_
 exact ⟨⟨_,rfl,(okz_rtN rfl rfl rfl rfl rfl)⟩,⟨⟨_,rfl,okz_mps⟩,trivial⟩⟩
theorem ofN_h (g g2:Nat) (L:List (List Rg)) (i:Int):HFunD Try.prog 67 [.pt 9101 g 0 0,intV i] [(9101,rtO g (.os 9102 g2 0 L.length) (.imm (.map none))),(9102,mpsO g2 L)] (optI (ofV L.length [] i)) [(9101,rtO g (.os 9102 g2 0 L.length) (.imm (.map none))),(9102,mpsO g2 L)]:=by
 intro c
 refine hfun_of Try.func67 rfl kr _ _ _ _ rfl 27 rfl rfl (fun X ok hX=>?_)
 refine srg fun N h1=>sa<|sa<|snl h1<|hw_seq fun Nh2 h2=>srg fun N h3=>sm ?_
 refine s0 hli ?_
 refine sm ?_
 first
 | refine stg 10 (fun hb=>hop_move rfl) rfl rfl rfl rfl rfl ?_
 | refine sth 10 (fun hb=>hop_move rfl) rfl rfl rfl rfl rfl ?_
 first
 | refine stg 10 (fun hb=>hop_move rfl) rfl rfl rfl rfl rfl ?_
 | refine sth 10 (fun hb=>hop_move rfl) rfl rfl rfl rfl rfl ?_
 first
 | refine hq_g 13 2 10 false _ (fun hb=>hop_funR (xs:=[_]) (pre:=[(9101,_),(9102,_)]) (lenN_h g g2 L) ⟨rfl,trivial⟩) rfl rfl rfl rfl (preC rfl (preC rfl pre0)) rfl rfl rfl ?_
 | refine hq_g2 13 2 10 _ _ false _ (fun hb=>hop_funR (xs:=[_]) (pre:=[(9101,_),(9102,_)]) (lenN_h g g2 L) ⟨rfl,trivial⟩) rfl rfl rfl rfl (preC rfl (preC rfl pre0)) rfl rfl rfl ?_
 first
 | refine stg 10 (fun hb=>hop_geq rfl rfl) rfl rfl rfl rfl rfl ?_
 | refine sth 10 (fun hb=>hop_geq rfl rfl) rfl rfl rfl rfl rfl ?_
 first
 | refine hq_p 15 (hstep_and _ _ rfl rfl rfl) rfl rfl rfl ?_
 | refine hq_p 15 (hstep_or _ _ rfl rfl rfl) rfl rfl rfl ?_
 | refine hq_p 15 (hstep_ite _ _ _ rfl rfl rfl) rfl rfl rfl ?_
 | refine hq_p 15 (hstep_pick _ _ _ _ rfl rfl rfl (fun _=>.refl _) (fun _=>.refl _)) rfl rfl rfl ?_
 refine nu ?_
 refine h3 _ ?_
 refine wc (fun hc0=>?_) (fun hc0=>?_)
 ·have hr0:=hc0;(try simp only [hcs,Int.reduceToNat] at hc0)
  have hi:i < 0∨(L.length:Int)≤i:=hc0
  refine srg fun N h4=>sa<|sa<|snl h4<|hw_ret<|hq_then_ret ?_
  refine hf_retR2 ok hX RetS.one rfl (rval_tmp rfl) (rval_tmp rfl) [] rfl pre0 (()) (trivial) (by rfl) (by rfl) ((by rw [show ofV L.length [] i=none by unfold ofV;rw [if_pos hi]];exact kz_optI none)) ?_
  exact ⟨⟨_,rfl,(okz_rtN rfl rfl rfl rfl rfl)⟩,⟨⟨_,rfl,okz_mps⟩,trivial⟩⟩
 have hr0:=hc0;(try simp only [hcs,Int.reduceToNat] at hc0)
 have hi:¬ (i < 0∨(L.length:Int)≤i):=(by intro h;have h9:=hr0;rcases h with h | h;(rw [decide_eq_true h] at h9;simp at h9);(rw [decide_eq_true h,Bool.or_true] at h9;cases h9))
 refine hw_skip<|h2 _<|srg fun N h5=>sm ?_
 first
 | refine hq_ 18 (hop_nilcheck_pt rfl) rfl rfl pre0 rfl rfl ?_
 | refine hq_ 18 (hop_nilcheck_fp rfl) rfl rfl pre0 rfl rfl ?_
 first
 | refine hq_ 19 (hop_fa fd_44_1 rfl) rfl rfl pre0 rfl rfl ?_
 | refine hq_ 19 (hop_fa_fp fd_44_1 rfl (by first | exact Nat.le_of_ble_eq_true rfl | omega | (dsimp only;omega) | (simp <;> omega))) rfl rfl pre0 rfl rfl ?_
 first
 | refine hq_ 20 (hol_load ty_42 rfl (by first | exact Nat.le_of_ble_eq_true rfl | omega | (dsimp only;omega) | (simp <;> omega)) (by first | exact Nat.le_of_ble_eq_true rfl | omega | (dsimp only;omega) | (simp <;> omega)) (fun h=>(by first | rfl | cases h))) rfl rfl (pre1 rfl) rfl rfl ?_
 | refine hq_ 20 (hop_load_fp ty_42 rfl (by first | exact Nat.le_of_ble_eq_true rfl | omega | (dsimp only;omega) | (simp <;> omega)) (fun h=>(by first | rfl | cases h))) rfl rfl pre0 rfl rfl ?_
 refine sm ?_
 refine s0 (HOp.val (v':=optI (lkI [] i)) (hop_lookup_nil keyMir rfl rfl (IsKey.imm _)) (lkV_none _)) ?_
 refine sm ?_
 refine s0 hex ?_
 refine s0 hex ?_
 refine sa<|sa<|snl h5<|srg fun N h6=>sm<|sm<|sa<|sa<|snl h6<|hw_ret ?_
 refine hf_retR2 ok hX RetS.one rfl (rval_tmp rfl) (rval_tmp rfl) [] rfl pre0 (()) (trivial) (by rfl) (by rfl) ((by rw [show ofV L.length [] i=lkI [] i by unfold ofV;rw [if_neg hi]];exact kz_optI _)) ?_
 exact ⟨⟨_,rfl,(okz_rtN rfl rfl rfl rfl rfl)⟩,⟨⟨_,rfl,okz_mps⟩,trivial⟩⟩
theorem recN_h (g g2:Nat) (L:List (List Rg)) (hok:RtOk L []) (i:Nat) (p:Plc) (hp:p.off≤1099511627776):HFunD Try.prog 53 [.pt 9101 g 0 0,intV (i:Int),plcH p] [(9101,rtO g (.os 9102 g2 0 L.length) (.imm (.map none))),(9102,mpsO g2 L)] (recI (rcdP L [] i p)) [(9101,rtO g (.os 9102 g2 0 L.length) (.imm (.map none))),(9102,mpsO g2 L)]:=by
 intro c
 refine hfun_of Try.func53 rfl kr _ _ _ _ rfl 48 rfl rfl (fun X ok hX=>?_)
 refine srg fun N h1=>?_
 refine hm_1 5 (hop_box (id:=5) (sz:=5) rfl rfl rfl omx omx) rfl rfl pre0 rfl rfl (c':=c+1) rfl ?_
 refine sa<|sa<|sa<|snl h1<|srg fun N h2=>sm<|sm ?_
 refine hq_ 15 (hop_funR (xs:=[_,_]) (pre:=[(9101,_),(9102,_)]) (ofN_h g g2 L i) ⟨rfl,⟨rfl,trivial⟩⟩) rfl rfl (preC rfl (preC rfl pre0)) rfl rfl ?_
 refine sm ?_
 refine s0 hex ?_
 refine s0 hex ?_
 refine sa<|sa<|snl h2<|hw_seq fun Nh3 h3=>srg fun N h4=>?_
 first
 | refine hq_ 18 (hop_fa fd_100_1 rfl) rfl rfl pre0 rfl rfl ?_
 | refine hq_ 18 (hop_fa_fp fd_100_1 rfl (by first | exact Nat.le_of_ble_eq_true rfl | omega | (dsimp only;omega) | (simp <;> omega))) rfl rfl pre0 rfl rfl ?_
 first
 | refine hq_ 19 (HOp.val (v':=boolV p.gone) (hol_load ty_4 rfl (by first | exact Nat.le_of_ble_eq_true rfl | omega | (dsimp only;omega) | (simp <;> omega)) (by first | exact Nat.le_of_ble_eq_true rfl | omega | (dsimp only;omega) | (simp <;> omega)) (fun h=>(by first | rfl | cases h))) (rfl)) rfl rfl (pre1 rfl) rfl rfl ?_
 | refine hq_ 19 (HOp.val (v':=boolV p.gone) (hop_load_fp ty_4 rfl (by first | exact Nat.le_of_ble_eq_true rfl | omega | (dsimp only;omega) | (simp <;> omega)) (fun h=>(by first | rfl | cases h))) (rfl)) rfl rfl pre0 rfl rfl ?_
 refine s0 (hop_not rfl) ?_
 refine sm ?_
 first
 | refine stg 21 (fun hb=>hop_move rfl) rfl rfl rfl rfl rfl ?_
 | refine sth 21 (fun hb=>hop_move rfl) rfl rfl rfl rfl rfl ?_
 first
 | refine stg 21 (fun hb=>hop_not rfl) rfl rfl rfl rfl rfl ?_
 | refine sth 21 (fun hb=>hop_not rfl) rfl rfl rfl rfl rfl ?_
 first
 | refine hq_p 24 (hstep_and _ _ rfl rfl rfl) rfl rfl rfl ?_
 | refine hq_p 24 (hstep_or _ _ rfl rfl rfl) rfl rfl rfl ?_
 | refine hq_p 24 (hstep_ite _ _ _ rfl rfl rfl) rfl rfl rfl ?_
 | refine hq_p 24 (hstep_pick _ _ _ _ rfl rfl rfl (fun _=>.refl _) (fun _=>.refl _)) rfl rfl rfl ?_
 refine sm ?_
 first
 | refine stg 25 (fun hb=>hop_move rfl) rfl rfl rfl rfl rfl ?_
 | refine sth 25 (fun hb=>hop_move rfl) rfl rfl rfl rfl rfl ?_
 first
 | refine stg 25 (fun hb=>hop_move rfl) rfl rfl rfl rfl rfl ?_
 | refine sth 25 (fun hb=>hop_move rfl) rfl rfl rfl rfl rfl ?_
 first
 | refine stg 25 (fun hb=>hop_lss rfl rfl) rfl rfl rfl rfl rfl ?_
 | refine sth 25 (fun hb=>hop_lss rfl rfl) rfl rfl rfl rfl rfl ?_
 first
 | refine hq_p 29 (hstep_and _ _ rfl rfl rfl) rfl rfl rfl ?_
 | refine hq_p 29 (hstep_or _ _ rfl rfl rfl) rfl rfl rfl ?_
 | refine hq_p 29 (hstep_ite _ _ _ rfl rfl rfl) rfl rfl rfl ?_
 | refine hq_p 29 (hstep_pick _ _ _ _ rfl rfl rfl (fun _=>.refl _) (fun _=>.refl _)) rfl rfl rfl ?_
 refine nu ?_
 refine h4 _ ?_
 refine wc (fun hc0=>?_) (fun hc0=>?_)
 ·have hr0:=hc0;(try simp only [hcs,Int.reduceToNat] at hc0)
  refine srg fun N h5=>sa<|sa<|sa<|snl h5<|hw_ret<|hq_then_ret ?_
  refine hf_retR3 ok hX RetS.one rfl (rval_tmp rfl) (rval_tmp rfl) (rval_tmp rfl) [] rfl pre0 (()) (trivial) (by rfl) (by rfl) ((kz_recI (rcdP_no hc0))) ?_
  exact ⟨⟨_,rfl,(okz_rtN rfl rfl rfl rfl rfl)⟩,⟨⟨_,rfl,okz_mps⟩,trivial⟩⟩
 have hr0:=hc0;(try simp only [hcs,Int.reduceToNat] at hc0)
 have hb1:0≤(ofV L.length [] (i:Int)).getD 0∧(ofV L.length [] (i:Int)).getD 0 < L.length:=(by obtain ⟨k,hk⟩:=Option.isSome_iff_exists.1 hc0.1.2;have hq:=ofV_bd hok hk;rw [hk];exact ⟨hq.1,hq.2.1⟩)
 refine hw_skip<|h3 _<|hw_seq fun Nh6 h6=>hd_start ?_
 refine dm 1 ?_
 first
 | refine hd_q 32 (hop_nilcheck_pt rfl) rfl rfl pre0 rfl rfl (k':=2) rfl ?_
 | refine hd_q 32 (hop_nilcheck_fp rfl) rfl rfl pre0 rfl rfl (k':=2) rfl ?_
 first
 | refine hd_q 33 (hop_fa fd_44_0 rfl) rfl rfl pre0 rfl rfl (k':=3) rfl ?_
 | refine hd_q 33 (hop_fa_fp fd_44_0 rfl (by first | exact Nat.le_of_ble_eq_true rfl | omega | (dsimp only;omega) | (simp <;> omega))) rfl rfl pre0 rfl rfl (k':=3) rfl ?_
 first
 | refine hd_q 34 (hol_load ty_41 rfl (by first | exact Nat.le_of_ble_eq_true rfl | omega | (dsimp only;omega) | (simp <;> omega)) (by first | exact Nat.le_of_ble_eq_true rfl | omega | (dsimp only;omega) | (simp <;> omega)) (fun h=>(by first | rfl | cases h))) rfl rfl (pre1 rfl) rfl rfl (k':=4) rfl ?_
 | refine hd_q 34 (hop_load_fp ty_41 rfl (by first | exact Nat.le_of_ble_eq_true rfl | omega | (dsimp only;omega) | (simp <;> omega)) (fun h=>(by first | rfl | cases h))) rfl rfl pre0 rfl rfl (k':=4) rfl ?_
 refine dm 5 ?_
 first
 | refine hd_q 36 (hop_ia_sl el_41 rfl rfl (by first | exact Nat.le_of_ble_eq_true rfl | omega | (dsimp only;omega) | (simp <;> omega)) (by first | exact Nat.le_of_ble_eq_true rfl | omega | (dsimp only;omega) | (simp <;> omega)) (by first | exact Nat.le_of_ble_eq_true rfl | omega | (dsimp only;omega) | (simp <;> omega))) rfl rfl pre0 rfl rfl (k':=6) rfl ?_
 | refine hd_q 36 (hol_ia_os el_41 rfl rfl (by first | exact Nat.le_of_ble_eq_true rfl | omega | (dsimp only;omega) | (simp <;> omega)) (by first | exact Nat.le_of_ble_eq_true rfl | omega | (dsimp only;omega) | (simp <;> omega))) rfl rfl (pre1 rfl) rfl rfl (k':=6) rfl ?_
 first
 | refine hd_q 37 (HOp.val (v':=rgsV (L.getD ((ofV L.length [] (i:Int)).getD 0).toNat [])) (hol_load ty_48 rfl (by first | exact Nat.le_of_ble_eq_true rfl | omega | (dsimp only;omega) | (simp <;> omega)) (by first | exact Nat.le_of_ble_eq_true rfl | omega | (dsimp only;omega) | (simp <;> omega)) (fun h=>(by first | rfl | cases h))) ((by show rgsV (L.getD (0+((ofV L.length [] (i:Int)).getD 0).toNat) [])=_;rw [Nat.zero_add]))) rfl rfl (pre1 rfl) rfl rfl (k':=7) rfl ?_
 | refine hd_q 37 (HOp.val (v':=rgsV (L.getD ((ofV L.length [] (i:Int)).getD 0).toNat [])) (hop_load_fp ty_48 rfl (by first | exact Nat.le_of_ble_eq_true rfl | omega | (dsimp only;omega) | (simp <;> omega)) (fun h=>(by first | rfl | cases h))) ((by show rgsV (L.getD (0+((ofV L.length [] (i:Int)).getD 0).toNat) [])=_;rw [Nat.zero_add]))) rfl rfl pre0 rfl rfl (k':=7) rfl ?_
 first
 | refine hd_q 38 (hop_fa fd_100_3 rfl) rfl rfl pre0 rfl rfl (k':=8) rfl ?_
 | refine hd_q 38 (hop_fa_fp fd_100_3 rfl (by first | exact Nat.le_of_ble_eq_true rfl | omega | (dsimp only;omega) | (simp <;> omega))) rfl rfl pre0 rfl rfl (k':=8) rfl ?_
 first
 | refine hd_q 39 (HOp.val (v':=intV p.rng) (hol_load ty_3 rfl (by first | exact Nat.le_of_ble_eq_true rfl | omega | (dsimp only;omega) | (simp <;> omega)) (by first | exact Nat.le_of_ble_eq_true rfl | omega | (dsimp only;omega) | (simp <;> omega)) (fun h=>(by first | rfl | cases h))) (rfl)) rfl rfl (pre1 rfl) rfl rfl (k':=9) rfl ?_
 | refine hd_q 39 (HOp.val (v':=intV p.rng) (hop_load_fp ty_3 rfl (by first | exact Nat.le_of_ble_eq_true rfl | omega | (dsimp only;omega) | (simp <;> omega)) (fun h=>(by first | rfl | cases h))) (rfl)) rfl rfl pre0 rfl rfl (k':=9) rfl ?_
 first
 | refine hd_q 40 (hop_fa fd_100_4 rfl) rfl rfl pre0 rfl rfl (k':=10) rfl ?_
 | refine hd_q 40 (hop_fa_fp fd_100_4 rfl (by first | exact Nat.le_of_ble_eq_true rfl | omega | (dsimp only;omega) | (simp <;> omega))) rfl rfl pre0 rfl rfl (k':=10) rfl ?_
 first
 | refine hd_q 41 (HOp.val (v':=intV p.off) (hol_load ty_3 rfl (by first | exact Nat.le_of_ble_eq_true rfl | omega | (dsimp only;omega) | (simp <;> omega)) (by first | exact Nat.le_of_ble_eq_true rfl | omega | (dsimp only;omega) | (simp <;> omega)) (fun h=>(by first | rfl | cases h))) (rfl)) rfl rfl (pre1 rfl) rfl rfl (k':=11) rfl ?_
 | refine hd_q 41 (HOp.val (v':=intV p.off) (hop_load_fp ty_3 rfl (by first | exact Nat.le_of_ble_eq_true rfl | omega | (dsimp only;omega) | (simp <;> omega)) (fun h=>(by first | rfl | cases h))) (rfl)) rfl rfl pre0 rfl rfl (k':=11) rfl ?_
 refine d0 12 (hop_call0 (xs:=[_,_,_]) (recover_h (L.getD ((ofV L.length [] (i:Int)).getD 0).toNat []) p.rng p.off hp) ⟨rfl,⟨rfl,⟨rfl,trivial⟩⟩⟩ ⟨fe,⟨fe,⟨fe,trivial⟩⟩⟩) ?_
 refine dm 13 ?_
 refine d0 14 hex ?_
 refine d0 15 hex ?_
 refine d0 16 (hop_assign rfl) ?_
 refine d0 17 (hop_assign rfl) ?_
 refine hd_nil kr kr (c':=c+18) rfl ?_
 refine h6 _<|srg fun N h7=>sm<|sm<|sm<|sa<|sa<|sa<|snl h7<|hw_ret ?_
 refine hf_retR3 ok hX RetS.one rfl (rval_tmp rfl) (rval_tmp rfl) (rval_tmp rfl) [] rfl pre0 (()) (trivial) (by rfl) (by rfl) ((kz_recI (rcdP_yes hc0))) ?_
 exact ⟨⟨_,rfl,(okz_rtN rfl rfl rfl rfl rfl)⟩,⟨⟨_,rfl,okz_mps⟩,trivial⟩⟩
theorem tellN_h (g g2:Nat) (L:List (List Rg)) (hL:L.length≤100000) (hok:RtOk L []) (pos side:Int):HFunD Try.prog 25 [.pt 9101 g 0 0,intV pos,intV side] [(9101,rtO g (.os 9102 g2 0 L.length) (.imm (.map none))),(9102,mpsO g2 L)] (t2 (plcH (routeV L [] pos side).1) (intV (routeV L [] pos side).2)) [(9101,rtO g (.os 9102 g2 0 L.length) (.imm (.map none))),(9102,mpsO g2 L)]:=by
 intro c
 refine hfun_of Try.func25 rfl kr _ _ _ _ rfl 77 rfl rfl (fun X ok hX=>?_)
 refine srg fun N h1=>?_
 refine hm_1 6 (hop_alloc (id:=6) (sz:=5) zc_100 rfl rfl omx omx) rfl rfl pre0 rfl rfl (c':=c+1) rfl ?_
 refine sa<|snl h1<|hw_seq fun Nh2 h2=>srg fun N h3=>sm ?_
 first
 | refine hq_ 16 (hop_eql_ptn (by kernel_rfl) rfl rfl) rfl rfl pre0 rfl rfl ?_
 | refine hq_ 16 (hop_eql_fpn (by kernel_rfl) rfl rfl) rfl rfl pre0 rfl rfl ?_
 | refine hq_ 16 (hop_eql_nnp (by kernel_rfl) rfl rfl) rfl rfl pre0 rfl rfl ?_
 | refine hq_ 16 (hop_eql_fp rfl rfl rfl) rfl rfl pre0 rfl rfl ?_
 | refine hq_ 16 (hop_eql_pn rfl rfl rfl) rfl rfl pre0 rfl rfl ?_
 refine snl h3 ?_
 refine wc (fun hc0=>?_) (fun hc0=>?_)
 ·have hr0:=hc0;(try simp only [hcs,Int.reduceToNat] at hc0)
  exfalso;simp at hr0
 have hr0:=hc0;(try simp only [hcs,Int.reduceToNat] at hc0)
 refine hw_skip<|h2 _<|hw_seq fun Nh4 h4=>?_
 let c0:=c
 refine hw_region<|sm ?_
 refine s0 (hop_build (hs:=[(0,1,_)]) st_100 rfl rfl ⟨rfl,rfl,rfl,rfl,rfl,trivial⟩) ?_
 refine hm_1 8 (hop_alloc (id:=8) (sz:=5) zc_100 rfl rfl omx omx) rfl rfl pre0 rfl rfl (c':=c+2) rfl ?_
 first
 | refine hm_s1 (hol_storeW ty_100 rfl rfl rfl rfl) rfl rfl (pre1 rfl) (c':=c+3) rfl ?_
 | refine hm_s1 (hol_store ty_100 rfl rfl rfl rfl (by first | exact Nat.le_of_ble_eq_true rfl | omega | (dsimp only;omega) | (simp <;> omega)) (by first | exact Nat.le_of_ble_eq_true rfl | omega | (dsimp only;omega) | (simp <;> omega)) (by first | exact Nat.le_of_ble_eq_true rfl | omega | (dsimp only;omega) | (simp <;> omega))) rfl rfl (pre1 rfl) (c':=c+3) rfl ?_
 refine snl h4<|hw_seq fun Nh5 h5=>srg fun N h6=>sa<|snl h6<|hw_block ?_
 refine hw_loopc (α:=Nat×Plc) (fun x c=>⟨77,[(0,.v (.pt 9101 g 0 0)),(1,.v (intV pos)),(2,.v (intV side)),(6,.v (.pt 6 c0 0 0)),(7,.v (intV 0)),(8,.v (.pt 8 (c0+1) 0 0)),(9,.v (intV (x.1:Int)))],[(6,plcO c0 ⟨0,false,false,0,0⟩),(8,plcO (c0+1) x.2),(9101,rtO g (.os 9102 g2 0 L.length) (.imm (.map none))),(9102,mpsO g2 L)],c⟩) (fun x=>x.1≤L.length∧goV L [] side x.1 x.2=routeV L [] pos side) (fun x=>L.length - x.1) ((0,⟨pos,false,false,0,0⟩)) (by exact ⟨Nat.zero_le _,rfl⟩) (hsub_of rfl (Nat.le_refl _) (tsr rfl (tsr rfl (tsr rfl (tsr rfl (tsr rfl (tsr rfl (TmSub.cons rfl (sb_intV rfl) TmSub.nil))))))) (HpSub.cons rfl (osub_plc (by exact j5i rfl rfl rfl rfl rfl)) (HpSub.cons rfl (osub_plc (by exact j5i rfl rfl rfl rfl rfl)) hsa))) (fun x c hx NhL7 hL7=>?_)
 revert hx hL7;obtain ⟨i,o⟩:=x;intro hx hL7;dsimp only at hx hL7 ⊢
 obtain ⟨hil,hgo⟩:=hx
 refine hw_seq fun Nh8 h8=>srg fun N h9=>sm<|sm ?_
 first
 | refine hq_ 22 (hop_nilcheck_pt rfl) rfl rfl pre0 rfl rfl ?_
 | refine hq_ 22 (hop_nilcheck_fp rfl) rfl rfl pre0 rfl rfl ?_
 first
 | refine hq_ 23 (hop_fa fd_44_0 rfl) rfl rfl pre0 rfl rfl ?_
 | refine hq_ 23 (hop_fa_fp fd_44_0 rfl (by first | exact Nat.le_of_ble_eq_true rfl | omega | (dsimp only;omega) | (simp <;> omega))) rfl rfl pre0 rfl rfl ?_
 first
 | refine hq_ 24 (hol_load ty_41 rfl (by first | exact Nat.le_of_ble_eq_true rfl | omega | (dsimp only;omega) | (simp <;> omega)) (by first | exact Nat.le_of_ble_eq_true rfl | omega | (dsimp only;omega) | (simp <;> omega)) (fun h=>(by first | rfl | cases h))) rfl rfl (pre1 rfl) rfl rfl ?_
 | refine hq_ 24 (hop_load_fp ty_41 rfl (by first | exact Nat.le_of_ble_eq_true rfl | omega | (dsimp only;omega) | (simp <;> omega)) (fun h=>(by first | rfl | cases h))) rfl rfl pre0 rfl rfl ?_
 first
 | refine hq_ 25 (hop_len_sl (T:=41) rfl (elOf_spec el_41).1 rfl) rfl rfl pre0 rfl rfl ?_
 | refine hq_ 25 (hop_len_os (T:=41) rfl (elOf_spec el_41).1 rfl) rfl rfl pre0 rfl rfl ?_
 | refine hq_ 25 (hop_len_nil (T:=41) rfl (elOf_spec el_41).1 rfl) rfl rfl pre0 rfl rfl ?_
 refine s0 hli ?_
 refine snl h9 ?_
 refine wc (fun hc1=>?_) (fun hc1=>?_)
 ·have hr1:=hc1;(try simp only [hcs,Int.reduceToNat] at hc1)
  have hlt:i < L.length:=om;have hri:=hok.1 i hlt
  refine hw_skip<|h8 _<|hw_seq fun Nh10 h10=>hw_block<|hw_seq fun Nh11 h11=>hd_start ?_
  refine dm 1 ?_
  first
  | refine hd_q 31 (hop_nilcheck_pt rfl) rfl rfl pre0 rfl rfl (k':=2) rfl ?_
  | refine hd_q 31 (hop_nilcheck_fp rfl) rfl rfl pre0 rfl rfl (k':=2) rfl ?_
  first
  | refine hd_q 32 (hop_fa fd_44_0 rfl) rfl rfl pre0 rfl rfl (k':=3) rfl ?_
  | refine hd_q 32 (hop_fa_fp fd_44_0 rfl (by first | exact Nat.le_of_ble_eq_true rfl | omega | (dsimp only;omega) | (simp <;> omega))) rfl rfl pre0 rfl rfl (k':=3) rfl ?_
  first
  | refine hd_q 33 (hol_load ty_41 rfl (by first | exact Nat.le_of_ble_eq_true rfl | omega | (dsimp only;omega) | (simp <;> omega)) (by first | exact Nat.le_of_ble_eq_true rfl | omega | (dsimp only;omega) | (simp <;> omega)) (fun h=>(by first | rfl | cases h))) rfl rfl (pre1 rfl) rfl rfl (k':=4) rfl ?_
  | refine hd_q 33 (hop_load_fp ty_41 rfl (by first | exact Nat.le_of_ble_eq_true rfl | omega | (dsimp only;omega) | (simp <;> omega)) (fun h=>(by first | rfl | cases h))) rfl rfl pre0 rfl rfl (k':=4) rfl ?_
  refine dm 5 ?_
  first
  | refine hd_q 35 (hop_ia_sl el_41 rfl rfl (by first | exact Nat.le_of_ble_eq_true rfl | omega | (dsimp only;omega) | (simp <;> omega)) (by first | exact Nat.le_of_ble_eq_true rfl | omega | (dsimp only;omega) | (simp <;> omega)) (by first | exact Nat.le_of_ble_eq_true rfl | omega | (dsimp only;omega) | (simp <;> omega))) rfl rfl pre0 rfl rfl (k':=6) rfl ?_
  | refine hd_q 35 (hol_ia_os el_41 rfl rfl (by first | exact Nat.le_of_ble_eq_true rfl | omega | (dsimp only;omega) | (simp <;> omega)) (by first | exact Nat.le_of_ble_eq_true rfl | omega | (dsimp only;omega) | (simp <;> omega))) rfl rfl (pre1 rfl) rfl rfl (k':=6) rfl ?_
  first
  | refine hd_q 36 (HOp.val (v':=rgsV (L.getD i [])) (hol_load ty_48 rfl (by first | exact Nat.le_of_ble_eq_true rfl | omega | (dsimp only;omega) | (simp <;> omega)) (by first | exact Nat.le_of_ble_eq_true rfl | omega | (dsimp only;omega) | (simp <;> omega)) (fun h=>(by first | rfl | cases h))) ((by show rgsV (L.getD (0+(i:Int).toNat) [])=_;rw [Nat.zero_add];rfl))) rfl rfl (pre1 rfl) rfl rfl (k':=7) rfl ?_
  | refine hd_q 36 (HOp.val (v':=rgsV (L.getD i [])) (hop_load_fp ty_48 rfl (by first | exact Nat.le_of_ble_eq_true rfl | omega | (dsimp only;omega) | (simp <;> omega)) (fun h=>(by first | rfl | cases h))) ((by show rgsV (L.getD (0+(i:Int).toNat) [])=_;rw [Nat.zero_add];rfl))) rfl rfl pre0 rfl rfl (k':=7) rfl ?_
  first
  | refine hd_q 37 (hop_fa fd_100_0 rfl) rfl rfl pre0 rfl rfl (k':=8) rfl ?_
  | refine hd_q 37 (hop_fa_fp fd_100_0 rfl (by first | exact Nat.le_of_ble_eq_true rfl | omega | (dsimp only;omega) | (simp <;> omega))) rfl rfl pre0 rfl rfl (k':=8) rfl ?_
  first
  | refine hd_q 38 (HOp.val (v':=intV o.pos) (hol_load ty_3 rfl (by first | exact Nat.le_of_ble_eq_true rfl | omega | (dsimp only;omega) | (simp <;> omega)) (by first | exact Nat.le_of_ble_eq_true rfl | omega | (dsimp only;omega) | (simp <;> omega)) (fun h=>(by first | rfl | cases h))) (rfl)) rfl rfl (pre1 rfl) rfl rfl (k':=9) rfl ?_
  | refine hd_q 38 (HOp.val (v':=intV o.pos) (hop_load_fp ty_3 rfl (by first | exact Nat.le_of_ble_eq_true rfl | omega | (dsimp only;omega) | (simp <;> omega)) (fun h=>(by first | rfl | cases h))) (rfl)) rfl rfl pre0 rfl rfl (k':=9) rfl ?_
  refine dm 10 ?_
  refine d0 11 (hop_call0 (xs:=[_,_,_]) (tell_h (L.getD i []) o.pos side) ⟨rfl,⟨rfl,⟨rfl,trivial⟩⟩⟩ ⟨fe,⟨fe,⟨fe,trivial⟩⟩⟩) ?_
  refine dm 12 ?_
  refine d0 13 hex ?_
  refine d0 14 hex ?_
  refine hd_1 10 (hop_alloc (id:=10) (sz:=5) zc_100 rfl rfl omx omx) rfl rfl pre0 rfl rfl (k':=15) rfl ?_
  first
  | refine hd_s1 (hol_storeW ty_100 rfl rfl rfl rfl) rfl rfl (pre1 rfl) (k':=16) rfl ?_
  | refine hd_s1 (hol_store ty_100 rfl rfl rfl rfl (by first | exact Nat.le_of_ble_eq_true rfl | omega | (dsimp only;omega) | (simp <;> omega)) (by first | exact Nat.le_of_ble_eq_true rfl | omega | (dsimp only;omega) | (simp <;> omega)) (by first | exact Nat.le_of_ble_eq_true rfl | omega | (dsimp only;omega) | (simp <;> omega))) rfl rfl (pre1 rfl) (k':=16) rfl ?_
  refine d0 17 (hop_assign rfl) ?_
  refine hd_nil kr kr (c':=c+17) rfl ?_
  refine h11 _<|hw_seq fun Nh12 h12=>srg fun N h13=>sm ?_
  refine s0 (hop_neq rfl rfl) ?_
  refine snl h13 ?_
  refine wc (fun hc2=>?_) (fun hc2=>?_)
  ·have hr2:=hc2;(try simp only [hcs,Int.reduceToNat] at hc2)
   have hbad:o.pos < 0∨1099511627776 < o.pos:=(by refine Classical.byContradiction fun h=>hc2 ?_;unfold tellP;rw [if_pos hri,if_neg h]);have htp:tellP (L.getD i []) o.pos side=(⟨0,false,false,0,0⟩,3):=(by unfold tellP;rw [if_pos hri,if_pos hbad])
   refine srg fun N h14=>?_
   refine s0 (hop_build (hs:=[]) st_100 rfl rfl trivial) ?_
   refine sm ?_
   first
   | refine hm_s1 (hol_storeW ty_100 rfl rfl rfl rfl) rfl rfl (pre1 rfl) (c':=c+18) rfl ?_
   | refine hm_s1 (hol_store ty_100 rfl rfl rfl rfl (by first | exact Nat.le_of_ble_eq_true rfl | omega | (dsimp only;omega) | (simp <;> omega)) (by first | exact Nat.le_of_ble_eq_true rfl | omega | (dsimp only;omega) | (simp <;> omega)) (by first | exact Nat.le_of_ble_eq_true rfl | omega | (dsimp only;omega) | (simp <;> omega))) rfl rfl (pre1 rfl) (c':=c+18) rfl ?_
   refine sa<|snl h14<|hw_ret<|hq_then_ret<|hq_block_ret<|hq_then_ret<|hq_then_ret<|hq_block_ret<|hq_then_ret ?_
   refine hf_retR2 ok hX RetS.one rfl (rvl_cell rfl rfl ty_100 rqc rfl rfl) (rval_tmp rfl) [] rfl pre0 (()) (trivial) (by rfl) (by rfl) ((by rw [←hgo,goV_bad hlt hbad];exact .fz _ _ (fz_t2 (fz_plc (by exact j5i rfl rfl rfl rfl rfl)) (fz_intV (by rw [htp]))))) ?_
   exact ⟨⟨_,rfl,(okz_rtN rfl rfl rfl rfl rfl)⟩,⟨⟨_,rfl,okz_mps⟩,trivial⟩⟩
  have hr2:=hc2;(try simp only [hcs,Int.reduceToNat] at hc2)
  have hgood:¬ (o.pos < 0∨1099511627776 < o.pos):=(by intro h;unfold tellP at hc2;rw [if_pos hri,if_pos h] at hc2;cases hc2);have htv:tellP (L.getD i []) o.pos side=(tellV (L.getD i []) o.pos side,0):=(by unfold tellP;rw [if_pos hri,if_neg hgood]);have htb:=tellV_bd hri (pos:=o.pos) (side:=side) om
  refine hw_skip<|h12 _<|hw_seq fun Nh15 h15=>srg fun N h16=>sm<|sm ?_
  first
  | refine hq_ 50 (HOp.val (v':=plcH (tellV (L.getD i []) o.pos side)) (hol_load ty_100 rfl (by first | exact Nat.le_of_ble_eq_true rfl | omega | (dsimp only;omega) | (simp <;> omega)) (by first | exact Nat.le_of_ble_eq_true rfl | omega | (dsimp only;omega) | (simp <;> omega)) (fun h=>(by first | rfl | cases h))) ((by show plcH (tellP (L.getD i []) o.pos side).1=_;rw [htv]))) rfl rfl (pre1 rfl) rfl rfl ?_
  | refine hq_ 50 (HOp.val (v':=plcH (tellV (L.getD i []) o.pos side)) (hop_load_fp ty_100 rfl (by first | exact Nat.le_of_ble_eq_true rfl | omega | (dsimp only;omega) | (simp <;> omega)) (fun h=>(by first | rfl | cases h))) ((by show plcH (tellP (L.getD i []) o.pos side).1=_;rw [htv]))) rfl rfl pre0 rfl rfl ?_
  refine hq_ 51 (hop_funR (xs:=[_,_,_]) (pre:=[(9101,_),(9102,_)]) (recN_h g g2 L hok i (tellV (L.getD i []) o.pos side) htb.2.2.2.2.2) ⟨rfl,⟨rfl,⟨rfl,trivial⟩⟩⟩) rfl rfl (preC rfl (preC rfl pre0)) rfl rfl ?_
  refine sm ?_
  refine s0 hex ?_
  refine s0 hex ?_
  refine s0 hex ?_
  refine sa<|sa<|sa<|snl h16<|srg fun N h17=>sm<|snl h17 ?_
  refine wc (fun hc3=>?_) (fun hc3=>?_)
  ·have hr3:=hc3;(try simp only [hcs,Int.reduceToNat] at hc3)
   obtain ⟨k,kx,e1,e2,hk,hik,hx0,hx1⟩:=recd_of hok hc3;rw [e1]
   refine srg fun N h18=>sm<|sm<|sa ?_
   first
   | refine hq_ 58 (hop_fa fd_100_0 rfl) rfl rfl pre0 rfl rfl ?_
   | refine hq_ 58 (hop_fa_fp fd_100_0 rfl (by first | exact Nat.le_of_ble_eq_true rfl | omega | (dsimp only;omega) | (simp <;> omega))) rfl rfl pre0 rfl rfl ?_
   first
   | refine hm_s1 (hol_storeW ty_3 rfl rfl rfl rfl) rfl rfl (pre1 rfl) (c':=c+18) rfl ?_
   | refine hm_s1 (hol_store ty_3 rfl rfl rfl rfl (by first | exact Nat.le_of_ble_eq_true rfl | omega | (dsimp only;omega) | (simp <;> omega)) (by first | exact Nat.le_of_ble_eq_true rfl | omega | (dsimp only;omega) | (simp <;> omega)) (by first | exact Nat.le_of_ble_eq_true rfl | omega | (dsimp only;omega) | (simp <;> omega))) rfl rfl (pre1 rfl) (c':=c+18) rfl ?_
   refine snl h18 ?_
   refine hw_exit ?_
   refine hq_then_exit<|hq_block_here<|h10 _<|hw_region<|sm ?_
   first
   | refine hq_ 28 (hop_addi rfl rfl rfl (by first | exact Nat.le_of_ble_eq_true rfl | omega | (dsimp only;omega) | (simp <;> omega)) (by first | exact Nat.le_of_ble_eq_true rfl | omega | (dsimp only;omega) | (simp <;> omega))) rfl rfl pre0 rfl rfl ?_
   | refine hq_ 28 (hop_add rfl rfl) rfl rfl pre0 rfl rfl ?_
   refine sa<|hseq_nil ?_
   exact hL7 ((k+1,⟨kx,o.gone,o.ins,o.rng,o.off⟩)) _ _ (by (try dsimp only);exact ⟨by omega,by rw [←hgo,goV_rec hlt hgood e2]⟩) (by (try dsimp only);omega) (hsub_of rfl (Nat.le_refl _) tsa (hsr rfl (HpSub.cons rfl (osub_plc (by exact j5i rfl rfl rfl rfl rfl)) hsa)))
  have hr3:=hc3;(try simp only [hcs,Int.reduceToNat] at hc3)
  have e2:=recd_not hc3
  refine hw_skip<|h15 _<|srg fun N h19=>?_
  first
  | refine hq_ 59 (hop_fa fd_100_0 rfl) rfl rfl pre0 rfl rfl ?_
  | refine hq_ 59 (hop_fa_fp fd_100_0 rfl (by first | exact Nat.le_of_ble_eq_true rfl | omega | (dsimp only;omega) | (simp <;> omega))) rfl rfl pre0 rfl rfl ?_
  first
  | refine hq_ 60 (HOp.val (v':=intV (tellV (L.getD i []) o.pos side).pos) (hol_load ty_3 rfl (by first | exact Nat.le_of_ble_eq_true rfl | omega | (dsimp only;omega) | (simp <;> omega)) (by first | exact Nat.le_of_ble_eq_true rfl | omega | (dsimp only;omega) | (simp <;> omega)) (fun h=>(by first | rfl | cases h))) ((by show intV (tellP (L.getD i []) o.pos side).1.pos=_;rw [htv]))) rfl rfl (pre1 rfl) rfl rfl ?_
  | refine hq_ 60 (HOp.val (v':=intV (tellV (L.getD i []) o.pos side).pos) (hop_load_fp ty_3 rfl (by first | exact Nat.le_of_ble_eq_true rfl | omega | (dsimp only;omega) | (simp <;> omega)) (fun h=>(by first | rfl | cases h))) ((by show intV (tellP (L.getD i []) o.pos side).1.pos=_;rw [htv]))) rfl rfl pre0 rfl rfl ?_
  first
  | refine hq_ 61 (hop_fa fd_100_0 rfl) rfl rfl pre0 rfl rfl ?_
  | refine hq_ 61 (hop_fa_fp fd_100_0 rfl (by first | exact Nat.le_of_ble_eq_true rfl | omega | (dsimp only;omega) | (simp <;> omega))) rfl rfl pre0 rfl rfl ?_
  first
  | refine hm_s1 (hol_storeW ty_3 rfl rfl rfl rfl) rfl rfl (pre1 rfl) (c':=c+18) rfl ?_
  | refine hm_s1 (hol_store ty_3 rfl rfl rfl rfl (by first | exact Nat.le_of_ble_eq_true rfl | omega | (dsimp only;omega) | (simp <;> omega)) (by first | exact Nat.le_of_ble_eq_true rfl | omega | (dsimp only;omega) | (simp <;> omega)) (by first | exact Nat.le_of_ble_eq_true rfl | omega | (dsimp only;omega) | (simp <;> omega))) rfl rfl (pre1 rfl) (c':=c+18) rfl ?_
  refine snl h19<|srg fun N h20=>?_
  first
  | refine hq_ 62 (hop_fa fd_100_1 rfl) rfl rfl pre0 rfl rfl ?_
  | refine hq_ 62 (hop_fa_fp fd_100_1 rfl (by first | exact Nat.le_of_ble_eq_true rfl | omega | (dsimp only;omega) | (simp <;> omega))) rfl rfl pre0 rfl rfl ?_
  first
  | refine hq_ 63 (HOp.val (v':=boolV o.gone) (hol_load ty_4 rfl (by first | exact Nat.le_of_ble_eq_true rfl | omega | (dsimp only;omega) | (simp <;> omega)) (by first | exact Nat.le_of_ble_eq_true rfl | omega | (dsimp only;omega) | (simp <;> omega)) (fun h=>(by first | rfl | cases h))) (rfl)) rfl rfl (pre1 rfl) rfl rfl ?_
  | refine hq_ 63 (HOp.val (v':=boolV o.gone) (hop_load_fp ty_4 rfl (by first | exact Nat.le_of_ble_eq_true rfl | omega | (dsimp only;omega) | (simp <;> omega)) (fun h=>(by first | rfl | cases h))) (rfl)) rfl rfl pre0 rfl rfl ?_
  refine sm ?_
  first
  | refine stg 64 (fun hb=>hop_fa fd_100_1 rfl) rfl rfl rfl rfl rfl ?_
  | refine sth 64 (fun hb=>hop_fa fd_100_1 rfl) rfl rfl rfl rfl rfl ?_
  | refine stg 64 (fun hb=>hop_fa_fp fd_100_1 rfl (by first | exact Nat.le_of_ble_eq_true rfl | (simp at hb;first | omega | (dsimp only;omega) | (simp <;> omega)) | omega | (dsimp only;omega))) rfl rfl rfl rfl rfl ?_
  | refine sth 64 (fun hb=>hop_fa_fp fd_100_1 rfl (by first | exact Nat.le_of_ble_eq_true rfl | (simp at hb;first | omega | (dsimp only;omega) | (simp <;> omega)) | omega | (dsimp only;omega))) rfl rfl rfl rfl rfl ?_
  first
  | refine hq_g 66 2 64 false _ (fun hb=>HOp.val (v':=boolV (tellV (L.getD i []) o.pos side).gone) (hol_load ty_4 rfl (by first | exact Nat.le_of_ble_eq_true rfl | (simp at hb;first | omega | (dsimp only;omega) | (simp <;> omega)) | omega | (dsimp only;omega)) (by first | exact Nat.le_of_ble_eq_true rfl | (simp at hb;first | omega | (dsimp only;omega) | (simp <;> omega)) | omega | (dsimp only;omega)) (fun h=>(by first | rfl | cases h))) ((by show boolV (tellP (L.getD i []) o.pos side).1.gone=_;rw [htv]))) rfl rfl rfl rfl (pre1 rfl) rfl rfl rfl ?_
  | refine hq_g2 66 2 64 _ _ false _ (fun hb=>HOp.val (v':=boolV (tellV (L.getD i []) o.pos side).gone) (hol_load ty_4 rfl (by first | exact Nat.le_of_ble_eq_true rfl | (simp at hb;first | omega | (dsimp only;omega) | (simp <;> omega)) | omega | (dsimp only;omega)) (by first | exact Nat.le_of_ble_eq_true rfl | (simp at hb;first | omega | (dsimp only;omega) | (simp <;> omega)) | omega | (dsimp only;omega)) (fun h=>(by first | rfl | cases h))) ((by show boolV (tellP (L.getD i []) o.pos side).1.gone=_;rw [htv]))) rfl rfl rfl rfl (pre1 rfl) rfl rfl rfl ?_
  | refine stg 64 (fun hb=>HOp.val (v':=boolV (tellV (L.getD i []) o.pos side).gone) (hop_load_fp ty_4 rfl (by first | exact Nat.le_of_ble_eq_true rfl | (simp at hb;first | omega | (dsimp only;omega) | (simp <;> omega)) | omega | (dsimp only;omega)) (fun h=>(by first | rfl | cases h))) ((by show boolV (tellP (L.getD i []) o.pos side).1.gone=_;rw [htv]))) rfl rfl rfl rfl rfl ?_
  | refine sth 64 (fun hb=>HOp.val (v':=boolV (tellV (L.getD i []) o.pos side).gone) (hop_load_fp ty_4 rfl (by first | exact Nat.le_of_ble_eq_true rfl | (simp at hb;first | omega | (dsimp only;omega) | (simp <;> omega)) | omega | (dsimp only;omega)) (fun h=>(by first | rfl | cases h))) ((by show boolV (tellP (L.getD i []) o.pos side).1.gone=_;rw [htv]))) rfl rfl rfl rfl rfl ?_
  first
  | refine hq_p 67 (hstep_and _ _ rfl rfl rfl) rfl rfl rfl ?_
  | refine hq_p 67 (hstep_or _ _ rfl rfl rfl) rfl rfl rfl ?_
  | refine hq_p 67 (hstep_ite _ _ _ rfl rfl rfl) rfl rfl rfl ?_
  | refine hq_p 67 (hstep_pick _ _ _ _ rfl rfl rfl (fun _=>.refl _) (fun _=>.refl _)) rfl rfl rfl ?_
  first
  | refine hq_ 68 (hop_fa fd_100_1 rfl) rfl rfl pre0 rfl rfl ?_
  | refine hq_ 68 (hop_fa_fp fd_100_1 rfl (by first | exact Nat.le_of_ble_eq_true rfl | omega | (dsimp only;omega) | (simp <;> omega))) rfl rfl pre0 rfl rfl ?_
  first
  | refine hm_s1 (hol_storeW ty_4 rfl rfl rfl rfl) rfl rfl (pre1 rfl) (c':=c+19) rfl ?_
  | refine hm_s1 (hol_store ty_4 rfl rfl rfl rfl (by first | exact Nat.le_of_ble_eq_true rfl | omega | (dsimp only;omega) | (simp <;> omega)) (by first | exact Nat.le_of_ble_eq_true rfl | omega | (dsimp only;omega) | (simp <;> omega)) (by first | exact Nat.le_of_ble_eq_true rfl | omega | (dsimp only;omega) | (simp <;> omega))) rfl rfl (pre1 rfl) (c':=c+19) rfl ?_
  refine nu ?_
  refine h20 _<|hw_region ?_
  first
  | refine hq_ 69 (hop_fa fd_100_2 rfl) rfl rfl pre0 rfl rfl ?_
  | refine hq_ 69 (hop_fa_fp fd_100_2 rfl (by first | exact Nat.le_of_ble_eq_true rfl | omega | (dsimp only;omega) | (simp <;> omega))) rfl rfl pre0 rfl rfl ?_
  first
  | refine hq_ 70 (HOp.val (v':=boolV o.ins) (hol_load ty_4 rfl (by first | exact Nat.le_of_ble_eq_true rfl | omega | (dsimp only;omega) | (simp <;> omega)) (by first | exact Nat.le_of_ble_eq_true rfl | omega | (dsimp only;omega) | (simp <;> omega)) (fun h=>(by first | rfl | cases h))) (rfl)) rfl rfl (pre1 rfl) rfl rfl ?_
  | refine hq_ 70 (HOp.val (v':=boolV o.ins) (hop_load_fp ty_4 rfl (by first | exact Nat.le_of_ble_eq_true rfl | omega | (dsimp only;omega) | (simp <;> omega)) (fun h=>(by first | rfl | cases h))) (rfl)) rfl rfl pre0 rfl rfl ?_
  refine sm ?_
  first
  | refine stg 71 (fun hb=>hop_fa fd_100_2 rfl) rfl rfl rfl rfl rfl ?_
  | refine sth 71 (fun hb=>hop_fa fd_100_2 rfl) rfl rfl rfl rfl rfl ?_
  | refine stg 71 (fun hb=>hop_fa_fp fd_100_2 rfl (by first | exact Nat.le_of_ble_eq_true rfl | (simp at hb;first | omega | (dsimp only;omega) | (simp <;> omega)) | omega | (dsimp only;omega))) rfl rfl rfl rfl rfl ?_
  | refine sth 71 (fun hb=>hop_fa_fp fd_100_2 rfl (by first | exact Nat.le_of_ble_eq_true rfl | (simp at hb;first | omega | (dsimp only;omega) | (simp <;> omega)) | omega | (dsimp only;omega))) rfl rfl rfl rfl rfl ?_
  first
  | refine hq_g 73 2 71 false _ (fun hb=>HOp.val (v':=boolV (tellV (L.getD i []) o.pos side).ins) (hol_load ty_4 rfl (by first | exact Nat.le_of_ble_eq_true rfl | (simp at hb;first | omega | (dsimp only;omega) | (simp <;> omega)) | omega | (dsimp only;omega)) (by first | exact Nat.le_of_ble_eq_true rfl | (simp at hb;first | omega | (dsimp only;omega) | (simp <;> omega)) | omega | (dsimp only;omega)) (fun h=>(by first | rfl | cases h))) ((by show boolV (tellP (L.getD i []) o.pos side).1.ins=_;rw [htv]))) rfl rfl rfl rfl (pre1 rfl) rfl rfl rfl ?_
  | refine hq_g2 73 2 71 _ _ false _ (fun hb=>HOp.val (v':=boolV (tellV (L.getD i []) o.pos side).ins) (hol_load ty_4 rfl (by first | exact Nat.le_of_ble_eq_true rfl | (simp at hb;first | omega | (dsimp only;omega) | (simp <;> omega)) | omega | (dsimp only;omega)) (by first | exact Nat.le_of_ble_eq_true rfl | (simp at hb;first | omega | (dsimp only;omega) | (simp <;> omega)) | omega | (dsimp only;omega)) (fun h=>(by first | rfl | cases h))) ((by show boolV (tellP (L.getD i []) o.pos side).1.ins=_;rw [htv]))) rfl rfl rfl rfl (pre1 rfl) rfl rfl rfl ?_
  | refine stg 71 (fun hb=>HOp.val (v':=boolV (tellV (L.getD i []) o.pos side).ins) (hop_load_fp ty_4 rfl (by first | exact Nat.le_of_ble_eq_true rfl | (simp at hb;first | omega | (dsimp only;omega) | (simp <;> omega)) | omega | (dsimp only;omega)) (fun h=>(by first | rfl | cases h))) ((by show boolV (tellP (L.getD i []) o.pos side).1.ins=_;rw [htv]))) rfl rfl rfl rfl rfl ?_
  | refine sth 71 (fun hb=>HOp.val (v':=boolV (tellV (L.getD i []) o.pos side).ins) (hop_load_fp ty_4 rfl (by first | exact Nat.le_of_ble_eq_true rfl | (simp at hb;first | omega | (dsimp only;omega) | (simp <;> omega)) | omega | (dsimp only;omega)) (fun h=>(by first | rfl | cases h))) ((by show boolV (tellP (L.getD i []) o.pos side).1.ins=_;rw [htv]))) rfl rfl rfl rfl rfl ?_
  first
  | refine hq_p 74 (hstep_and _ _ rfl rfl rfl) rfl rfl rfl ?_
  | refine hq_p 74 (hstep_or _ _ rfl rfl rfl) rfl rfl rfl ?_
  | refine hq_p 74 (hstep_ite _ _ _ rfl rfl rfl) rfl rfl rfl ?_
  | refine hq_p 74 (hstep_pick _ _ _ _ rfl rfl rfl (fun _=>.refl _) (fun _=>.refl _)) rfl rfl rfl ?_
  first
  | refine hq_ 75 (hop_fa fd_100_2 rfl) rfl rfl pre0 rfl rfl ?_
  | refine hq_ 75 (hop_fa_fp fd_100_2 rfl (by first | exact Nat.le_of_ble_eq_true rfl | omega | (dsimp only;omega) | (simp <;> omega))) rfl rfl pre0 rfl rfl ?_
  first
  | refine hm_s1 (hol_storeW ty_4 rfl rfl rfl rfl) rfl rfl (pre1 rfl) (c':=c+20) rfl ?_
  | refine hm_s1 (hol_store ty_4 rfl rfl rfl rfl (by first | exact Nat.le_of_ble_eq_true rfl | omega | (dsimp only;omega) | (simp <;> omega)) (by first | exact Nat.le_of_ble_eq_true rfl | omega | (dsimp only;omega) | (simp <;> omega)) (by first | exact Nat.le_of_ble_eq_true rfl | omega | (dsimp only;omega) | (simp <;> omega))) rfl rfl (pre1 rfl) (c':=c+20) rfl ?_
  refine nu ?_
  refine hq_block<|h10 _<|hw_region<|sm ?_
  first
  | refine hq_ 28 (hop_addi rfl rfl rfl (by first | exact Nat.le_of_ble_eq_true rfl | omega | (dsimp only;omega) | (simp <;> omega)) (by first | exact Nat.le_of_ble_eq_true rfl | omega | (dsimp only;omega) | (simp <;> omega))) rfl rfl pre0 rfl rfl ?_
  | refine hq_ 28 (hop_add rfl rfl) rfl rfl pre0 rfl rfl ?_
  refine sa<|hseq_nil ?_
  exact hL7 ((i+1,⟨(tellV (L.getD i []) o.pos side).pos,o.gone||(tellV (L.getD i []) o.pos side).gone,o.ins||(tellV (L.getD i []) o.pos side).ins,o.rng,o.off⟩)) _ _ (by (try dsimp only);exact ⟨by omega,by rw [←hgo,goV_on hlt hgood e2]⟩) (by (try dsimp only);omega) (hsub_of rfl (Nat.le_refl _) tsa (hsr rfl (HpSub.cons rfl (osub_plc (by exact j5i rfl rfl rfl rfl rfl)) hsa)))
 have hr1:=hc1;(try simp only [hcs,Int.reduceToNat] at hc1)
 have hie:L.length≤i:=om
 refine hw_exit ?_
 refine hq_then_exit<|hq_then_exit<|hq_block_here<|h5 _<|srg fun N h21=>?_
 first
 | refine hq_ 76 (hol_load ty_100 rfl (by first | exact Nat.le_of_ble_eq_true rfl | omega | (dsimp only;omega) | (simp <;> omega)) (by first | exact Nat.le_of_ble_eq_true rfl | omega | (dsimp only;omega) | (simp <;> omega)) (fun h=>(by first | rfl | cases h))) rfl rfl (pre1 rfl) rfl rfl ?_
 | refine hq_ 76 (hop_load_fp ty_100 rfl (by first | exact Nat.le_of_ble_eq_true rfl | omega | (dsimp only;omega) | (simp <;> omega)) (fun h=>(by first | rfl | cases h))) rfl rfl pre0 rfl rfl ?_
 first
 | refine hm_s1 (hol_storeW ty_100 rfl rfl rfl rfl) rfl rfl (pre1 rfl) (c':=c+1) rfl ?_
 | refine hm_s1 (hol_store ty_100 rfl rfl rfl rfl (by first | exact Nat.le_of_ble_eq_true rfl | omega | (dsimp only;omega) | (simp <;> omega)) (by first | exact Nat.le_of_ble_eq_true rfl | omega | (dsimp only;omega) | (simp <;> omega)) (by first | exact Nat.le_of_ble_eq_true rfl | omega | (dsimp only;omega) | (simp <;> omega))) rfl rfl (pre1 rfl) (c':=c+1) rfl ?_
 refine sa<|snl h21<|hw_ret ?_
 refine hf_retR2 ok hX RetS.one rfl (rvl_cell rfl rfl ty_100 rqc rfl rfl) (rval_tmp rfl) [] rfl pre0 (()) (trivial) (by rfl) (by rfl) ((by rw [←hgo,goV_end hie];exact .fz _ _ (fz_t2 (fz_plc (by exact j5i rfl rfl rfl rfl rfl)) (.imm _)))) ?_
 exact ⟨⟨_,rfl,(okz_rtN rfl rfl rfl rfl rfl)⟩,⟨⟨_,rfl,okz_mps⟩,trivial⟩⟩
theorem addN_h (c:Nat) (g g2:Nat) (L:List (List Rg)) (hL:L.length < 5000) (m:List Rg) (hm:rightM m=true):HFun Try.prog 21 c [.pt 9101 g 0 0,rgsV m] [(9101,rtO g (.os 9102 g2 0 L.length) (.imm (.map none))),(9102,mpsO g2 L)]
  (RetP (fun (_:Nat) _=>True) (fun _=>intV 0) (fun g'=>[(9101,rtO g (.os 9102 g' 0 (L++[m]).length) (.imm (.map none))),(9102,mpsO g' (L++[m]))])):=by
 have hml:=(rightM_iff.1 hm).1
 refine hfun_of Try.func21 rfl kr _ _ _ _ rfl 30 rfl rfl (fun X ok hX=>?_)
 refine srg fun N h1=>sa<|snl h1<|hw_seq fun Nh2 h2=>hw_block<|srg fun N h3=>sm ?_
 first
 | refine hq_ 7 (hop_eql_ptn (by kernel_rfl) rfl rfl) rfl rfl pre0 rfl rfl ?_
 | refine hq_ 7 (hop_eql_fpn (by kernel_rfl) rfl rfl) rfl rfl pre0 rfl rfl ?_
 | refine hq_ 7 (hop_eql_nnp (by kernel_rfl) rfl rfl) rfl rfl pre0 rfl rfl ?_
 | refine hq_ 7 (hop_eql_fp rfl rfl rfl) rfl rfl pre0 rfl rfl ?_
 | refine hq_ 7 (hop_eql_pn rfl rfl rfl) rfl rfl pre0 rfl rfl ?_
 refine sa<|snl h3 ?_
 refine wc (fun hc0=>?_) (fun hc0=>?_)
 ·have hr0:=hc0;(try simp only [hcs,Int.reduceToNat] at hc0)
  exfalso;simp at hr0
 have hr0:=hc0;(try simp only [hcs,Int.reduceToNat] at hc0)
 refine srg fun N h4=>sm ?_
 refine s0 (hop_call0 (xs:=[_]) (right_h m) ⟨rfl,trivial⟩ ⟨fe,trivial⟩) ?_
 refine s0 (hop_not rfl) ?_
 refine sa<|snl h4 ?_
 refine wc (fun hc1=>?_) (fun hc1=>?_)
 ·have hr1:=hc1;(try simp only [hcs,Int.reduceToNat] at hc1)
  exfalso;rw [hm] at hr1;simp at hr1
 have hr1:=hc1;(try simp only [hcs,Int.reduceToNat] at hc1)
 refine srg fun N h5=>sm ?_
 first
 | refine hq_ 14 (hop_nilcheck_pt rfl) rfl rfl pre0 rfl rfl ?_
 | refine hq_ 14 (hop_nilcheck_fp rfl) rfl rfl pre0 rfl rfl ?_
 first
 | refine hq_ 15 (hop_fa fd_44_0 rfl) rfl rfl pre0 rfl rfl ?_
 | refine hq_ 15 (hop_fa_fp fd_44_0 rfl (by first | exact Nat.le_of_ble_eq_true rfl | omega | (dsimp only;omega) | (simp <;> omega))) rfl rfl pre0 rfl rfl ?_
 first
 | refine hq_ 16 (hol_load ty_41 rfl (by first | exact Nat.le_of_ble_eq_true rfl | omega | (dsimp only;omega) | (simp <;> omega)) (by first | exact Nat.le_of_ble_eq_true rfl | omega | (dsimp only;omega) | (simp <;> omega)) (fun h=>(by first | rfl | cases h))) rfl rfl (pre1 rfl) rfl rfl ?_
 | refine hq_ 16 (hop_load_fp ty_41 rfl (by first | exact Nat.le_of_ble_eq_true rfl | omega | (dsimp only;omega) | (simp <;> omega)) (fun h=>(by first | rfl | cases h))) rfl rfl pre0 rfl rfl ?_
 first
 | refine hq_ 17 (hop_len_sl (T:=41) rfl (elOf_spec el_41).1 rfl) rfl rfl pre0 rfl rfl ?_
 | refine hq_ 17 (hop_len_os (T:=41) rfl (elOf_spec el_41).1 rfl) rfl rfl pre0 rfl rfl ?_
 | refine hq_ 17 (hop_len_nil (T:=41) rfl (elOf_spec el_41).1 rfl) rfl rfl pre0 rfl rfl ?_
 refine s0 hqi ?_
 refine sa<|snl h5 ?_
 refine wc (fun hc2=>?_) (fun hc2=>?_)
 ·have hr2:=hc2;(try simp only [hcs,Int.reduceToNat] at hc2)
  exfalso;omega
 have hr2:=hc2;(try simp only [hcs,Int.reduceToNat] at hc2)
 refine hw_skip<|hq_block<|h2 _<|hw_seq fun Nh6 h6=>hd_start ?_
 refine dm 1 ?_
 refine dm 2 ?_
 first
 | refine hd_q 21 (hop_nilcheck_pt rfl) rfl rfl pre0 rfl rfl (k':=3) rfl ?_
 | refine hd_q 21 (hop_nilcheck_fp rfl) rfl rfl pre0 rfl rfl (k':=3) rfl ?_
 first
 | refine hd_q 22 (hop_fa fd_44_0 rfl) rfl rfl pre0 rfl rfl (k':=4) rfl ?_
 | refine hd_q 22 (hop_fa_fp fd_44_0 rfl (by first | exact Nat.le_of_ble_eq_true rfl | omega | (dsimp only;omega) | (simp <;> omega))) rfl rfl pre0 rfl rfl (k':=4) rfl ?_
 first
 | refine hd_q 23 (hol_load ty_41 rfl (by first | exact Nat.le_of_ble_eq_true rfl | omega | (dsimp only;omega) | (simp <;> omega)) (by first | exact Nat.le_of_ble_eq_true rfl | omega | (dsimp only;omega) | (simp <;> omega)) (fun h=>(by first | rfl | cases h))) rfl rfl (pre1 rfl) rfl rfl (k':=5) rfl ?_
 | refine hd_q 23 (hop_load_fp ty_41 rfl (by first | exact Nat.le_of_ble_eq_true rfl | omega | (dsimp only;omega) | (simp <;> omega)) (fun h=>(by first | rfl | cases h))) rfl rfl pre0 rfl rfl (k':=5) rfl ?_
 refine dm 6 ?_
 refine d0 7 (hop_call0 (xs:=[_]) (cloneR_h m om) ⟨rfl,trivial⟩ ⟨fe,trivial⟩) ?_
 refine hd_1 26 (hop_buildSlice (id:=26) (hs:=[_]) ei_41 omx rfl omx ⟨rfl,rfl,rfl,rfl,trivial⟩) rfl rfl pre0 rfl rfl (k':=8) rfl ?_
 first
 | refine hd_1 27 (hol_append ei_41 (by first | exact Nat.le_of_ble_eq_true rfl | omega | (dsimp only;omega) | (simp <;> omega)) rfl (by first | exact Nat.le_of_ble_eq_true rfl | omega | (dsimp only;omega) | (simp <;> omega)) (by first | exact Nat.le_of_ble_eq_true rfl | omega | (dsimp only;omega) | (simp <;> omega)) (srl_os0 rfl (by first | exact Nat.le_of_ble_eq_true rfl | omega | (dsimp only;omega) | (simp <;> omega))) (by first | exact Nat.le_of_ble_eq_true rfl | omega | (dsimp only;omega) | (simp <;> omega)) rfl) rfl rfl (preC rfl (pre1 rfl)) rfl rfl (k':=9) rfl ?_
 | refine hd_1 27 (hol_append ei_41 (by first | exact Nat.le_of_ble_eq_true rfl | omega | (dsimp only;omega) | (simp <;> omega)) rfl (by first | exact Nat.le_of_ble_eq_true rfl | omega | (dsimp only;omega) | (simp <;> omega)) (by first | exact Nat.le_of_ble_eq_true rfl | omega | (dsimp only;omega) | (simp <;> omega)) (srl_os rfl (by first | exact Nat.le_of_ble_eq_true rfl | omega | (dsimp only;omega) | (simp <;> omega))) (by first | exact Nat.le_of_ble_eq_true rfl | omega | (dsimp only;omega) | (simp <;> omega)) rfl) rfl rfl (preC rfl (pre1 rfl)) rfl rfl (k':=9) rfl ?_
 | refine hd_1 27 (hol_append ei_41 (by first | exact Nat.le_of_ble_eq_true rfl | omega | (dsimp only;omega) | (simp <;> omega)) rfl (by first | exact Nat.le_of_ble_eq_true rfl | omega | (dsimp only;omega) | (simp <;> omega)) (by first | exact Nat.le_of_ble_eq_true rfl | omega | (dsimp only;omega) | (simp <;> omega)) (src_sl rfl) (by first | exact Nat.le_of_ble_eq_true rfl | omega | (dsimp only;omega) | (simp <;> omega)) rfl) rfl rfl (preC rfl pre0) rfl rfl (k':=9) rfl ?_
 | refine hd_1 27 (hol_append ei_41 (by first | exact Nat.le_of_ble_eq_true rfl | omega | (dsimp only;omega) | (simp <;> omega)) rfl (by first | exact Nat.le_of_ble_eq_true rfl | omega | (dsimp only;omega) | (simp <;> omega)) (by first | exact Nat.le_of_ble_eq_true rfl | omega | (dsimp only;omega) | (simp <;> omega)) (src_nil 1 (fun _ _=>default) rfl) (by first | exact Nat.le_of_ble_eq_true rfl | omega | (dsimp only;omega) | (simp <;> omega)) rfl) rfl rfl (preC rfl pre0) rfl rfl (k':=9) rfl ?_
 first
 | refine hd_q 28 (hop_nilcheck_pt rfl) rfl rfl pre0 rfl rfl (k':=10) rfl ?_
 | refine hd_q 28 (hop_nilcheck_fp rfl) rfl rfl pre0 rfl rfl (k':=10) rfl ?_
 first
 | refine hd_q 29 (hop_fa fd_44_0 rfl) rfl rfl pre0 rfl rfl (k':=11) rfl ?_
 | refine hd_q 29 (hop_fa_fp fd_44_0 rfl (by first | exact Nat.le_of_ble_eq_true rfl | omega | (dsimp only;omega) | (simp <;> omega))) rfl rfl pre0 rfl rfl (k':=11) rfl ?_
 first
 | refine hd_s1 (hol_storeW ty_41 rfl rfl rfl rfl) rfl rfl (pre1 rfl) (k':=12) rfl ?_
 | refine hd_s1 (hol_store ty_41 rfl rfl rfl rfl (by first | exact Nat.le_of_ble_eq_true rfl | omega | (dsimp only;omega) | (simp <;> omega)) (by first | exact Nat.le_of_ble_eq_true rfl | omega | (dsimp only;omega) | (simp <;> omega)) (by first | exact Nat.le_of_ble_eq_true rfl | omega | (dsimp only;omega) | (simp <;> omega))) rfl rfl (pre1 rfl) (k':=12) rfl ?_
 refine hd_nil kr kr (c':=c+12) rfl ?_
 refine h6 _<|srg fun N h7=>sa<|snl h7<|hw_ret ?_
 refine hf_retR1 ok hX RetS.one rfl (rval_tmp rfl) [] rfl pre0 ((c+8)) (trivial) (by rfl) (by rfl) (kza) ?_
 exact ⟨⟨_,rfl,(okz_rtN rfl rfl (by simp) rfl rfl)⟩,⟨⟨_,rfl,(okz_mpsS rfl)⟩,trivial⟩⟩
theorem lenM_h (g g2 g3:Nat) (L:List (List Rg)) (mir:List (Int×Int)):HFunD Try.prog 71 [.pt 9101 g 0 0] [(9101,rtO g (.os 9102 g2 0 L.length) (.mp 9103 g3)),(9102,mpsO g2 L),(9103,mirO g3 mir)] (intV (L.length:Int)) [(9101,rtO g (.os 9102 g2 0 L.length) (.mp 9103 g3)),(9102,mpsO g2 L),(9103,mirO g3 mir)]:=by
 intro c
 refine hfun_of Try.func71 rfl kr _ _ _ _ rfl 10 rfl rfl (fun X ok hX=>?_)
 refine srg fun N h1=>sa<|snl h1<|hw_seq fun Nh2 h2=>srg fun N h3=>sm ?_
 first
 | refine hq_ 4 (hop_eql_ptn (by kernel_rfl) rfl rfl) rfl rfl pre0 rfl rfl ?_
 | refine hq_ 4 (hop_eql_fpn (by kernel_rfl) rfl rfl) rfl rfl pre0 rfl rfl ?_
 | refine hq_ 4 (hop_eql_nnp (by kernel_rfl) rfl rfl) rfl rfl pre0 rfl rfl ?_
 | refine hq_ 4 (hop_eql_fp rfl rfl rfl) rfl rfl pre0 rfl rfl ?_
 | refine hq_ 4 (hop_eql_pn rfl rfl rfl) rfl rfl pre0 rfl rfl ?_
 refine snl h3 ?_
 refine wc (fun hc0=>?_) (fun hc0=>?_)
 ·have hr0:=hc0;(try simp only [hcs,Int.reduceToNat] at hc0)
  exfalso;simp at hr0
 have hr0:=hc0;(try simp only [hcs,Int.reduceToNat] at hc0)
 refine hw_skip<|h2 _<|srg fun N h4=>sm ?_
 first
 | refine hq_ 6 (hop_nilcheck_pt rfl) rfl rfl pre0 rfl rfl ?_
 | refine hq_ 6 (hop_nilcheck_fp rfl) rfl rfl pre0 rfl rfl ?_
 first
 | refine hq_ 7 (hop_fa fd_44_0 rfl) rfl rfl pre0 rfl rfl ?_
 | refine hq_ 7 (hop_fa_fp fd_44_0 rfl (by first | exact Nat.le_of_ble_eq_true rfl | omega | (dsimp only;omega) | (simp <;> omega))) rfl rfl pre0 rfl rfl ?_
 first
 | refine hq_ 8 (hol_load ty_41 rfl (by first | exact Nat.le_of_ble_eq_true rfl | omega | (dsimp only;omega) | (simp <;> omega)) (by first | exact Nat.le_of_ble_eq_true rfl | omega | (dsimp only;omega) | (simp <;> omega)) (fun h=>(by first | rfl | cases h))) rfl rfl (pre1 rfl) rfl rfl ?_
 | refine hq_ 8 (hop_load_fp ty_41 rfl (by first | exact Nat.le_of_ble_eq_true rfl | omega | (dsimp only;omega) | (simp <;> omega)) (fun h=>(by first | rfl | cases h))) rfl rfl pre0 rfl rfl ?_
 first
 | refine hq_ 9 (hop_len_sl (T:=41) rfl (elOf_spec el_41).1 rfl) rfl rfl pre0 rfl rfl ?_
 | refine hq_ 9 (hop_len_os (T:=41) rfl (elOf_spec el_41).1 rfl) rfl rfl pre0 rfl rfl ?_
 | refine hq_ 9 (hop_len_nil (T:=41) rfl (elOf_spec el_41).1 rfl) rfl rfl pre0 rfl rfl ?_
 refine sa<|snl h4<|hw_ret ?_
 refine hf_retR1 ok hX RetS.one rfl (rval_tmp rfl) [] rfl pre0 (()) (trivial) (by rfl) (by rfl) (kza) ?_
 exact ⟨⟨_,rfl,(okz_rtM rfl rfl rfl rfl rfl rfl rfl)⟩,⟨⟨_,rfl,okz_mps⟩,⟨⟨_,rfl,okz_map⟩,trivial⟩⟩⟩
theorem ofM_h (g g2 g3:Nat) (L:List (List Rg)) (mir:List (Int×Int)) (i:Int):HFunD Try.prog 67 [.pt 9101 g 0 0,intV i] [(9101,rtO g (.os 9102 g2 0 L.length) (.mp 9103 g3)),(9102,mpsO g2 L),(9103,mirO g3 mir)] (optI (ofV L.length mir i)) [(9101,rtO g (.os 9102 g2 0 L.length) (.mp 9103 g3)),(9102,mpsO g2 L),(9103,mirO g3 mir)]:=by
 intro c
 refine hfun_of Try.func67 rfl kr _ _ _ _ rfl 27 rfl rfl (fun X ok hX=>?_)
 refine srg fun N h1=>sa<|sa<|snl h1<|hw_seq fun Nh2 h2=>srg fun N h3=>sm ?_
 refine s0 hli ?_
 refine sm ?_
 first
 | refine stg 10 (fun hb=>hop_move rfl) rfl rfl rfl rfl rfl ?_
 | refine sth 10 (fun hb=>hop_move rfl) rfl rfl rfl rfl rfl ?_
 first
 | refine stg 10 (fun hb=>hop_move rfl) rfl rfl rfl rfl rfl ?_
 | refine sth 10 (fun hb=>hop_move rfl) rfl rfl rfl rfl rfl ?_
 first
 | refine hq_g 13 2 10 false _ (fun hb=>hop_funR (xs:=[_]) (pre:=[(9101,_),(9102,_),(9103,_)]) (lenM_h g g2 g3 L mir) ⟨rfl,trivial⟩) rfl rfl rfl rfl (preC rfl (preC rfl (preC rfl pre0))) rfl rfl rfl ?_
 | refine hq_g2 13 2 10 _ _ false _ (fun hb=>hop_funR (xs:=[_]) (pre:=[(9101,_),(9102,_),(9103,_)]) (lenM_h g g2 g3 L mir) ⟨rfl,trivial⟩) rfl rfl rfl rfl (preC rfl (preC rfl (preC rfl pre0))) rfl rfl rfl ?_
 first
 | refine stg 10 (fun hb=>hop_geq rfl rfl) rfl rfl rfl rfl rfl ?_
 | refine sth 10 (fun hb=>hop_geq rfl rfl) rfl rfl rfl rfl rfl ?_
 first
 | refine hq_p 15 (hstep_and _ _ rfl rfl rfl) rfl rfl rfl ?_
 | refine hq_p 15 (hstep_or _ _ rfl rfl rfl) rfl rfl rfl ?_
 | refine hq_p 15 (hstep_ite _ _ _ rfl rfl rfl) rfl rfl rfl ?_
 | refine hq_p 15 (hstep_pick _ _ _ _ rfl rfl rfl (fun _=>.refl _) (fun _=>.refl _)) rfl rfl rfl ?_
 refine nu ?_
 refine h3 _ ?_
 refine wc (fun hc0=>?_) (fun hc0=>?_)
 ·have hr0:=hc0;(try simp only [hcs,Int.reduceToNat] at hc0)
  have hi:i < 0∨(L.length:Int)≤i:=hc0
  refine srg fun N h4=>sa<|sa<|snl h4<|hw_ret<|hq_then_ret ?_
  refine hf_retR2 ok hX RetS.one rfl (rval_tmp rfl) (rval_tmp rfl) [] rfl pre0 (()) (trivial) (by rfl) (by rfl) ((by rw [show ofV L.length mir i=none by unfold ofV;rw [if_pos hi]];exact kz_optI none)) ?_
  exact ⟨⟨_,rfl,(okz_rtM rfl rfl rfl rfl rfl rfl rfl)⟩,⟨⟨_,rfl,okz_mps⟩,⟨⟨_,rfl,okz_map⟩,trivial⟩⟩⟩
 have hr0:=hc0;(try simp only [hcs,Int.reduceToNat] at hc0)
 have hi:¬ (i < 0∨(L.length:Int)≤i):=(by intro h;have h9:=hr0;rcases h with h | h;(rw [decide_eq_true h] at h9;simp at h9);(rw [decide_eq_true h,Bool.or_true] at h9;cases h9))
 refine hw_skip<|h2 _<|srg fun N h5=>sm ?_
 first
 | refine hq_ 18 (hop_nilcheck_pt rfl) rfl rfl pre0 rfl rfl ?_
 | refine hq_ 18 (hop_nilcheck_fp rfl) rfl rfl pre0 rfl rfl ?_
 first
 | refine hq_ 19 (hop_fa fd_44_1 rfl) rfl rfl pre0 rfl rfl ?_
 | refine hq_ 19 (hop_fa_fp fd_44_1 rfl (by first | exact Nat.le_of_ble_eq_true rfl | omega | (dsimp only;omega) | (simp <;> omega))) rfl rfl pre0 rfl rfl ?_
 first
 | refine hq_ 20 (hol_load ty_42 rfl (by first | exact Nat.le_of_ble_eq_true rfl | omega | (dsimp only;omega) | (simp <;> omega)) (by first | exact Nat.le_of_ble_eq_true rfl | omega | (dsimp only;omega) | (simp <;> omega)) (fun h=>(by first | rfl | cases h))) rfl rfl (pre1 rfl) rfl rfl ?_
 | refine hq_ 20 (hop_load_fp ty_42 rfl (by first | exact Nat.le_of_ble_eq_true rfl | omega | (dsimp only;omega) | (simp <;> omega)) (fun h=>(by first | rfl | cases h))) rfl rfl pre0 rfl rfl ?_
 refine sm ?_
 refine st1 (HOp.val (v':=optI (lkI mir i)) (hop_lookup keyMir (l:=mirE mir) rfl rfl (IsKey.imm _)) (lkV_mir _ _)) rfl rfl rfl ?_
 refine sm ?_
 refine s0 hex ?_
 refine s0 hex ?_
 refine sa<|sa<|snl h5<|srg fun N h6=>sm<|sm<|sa<|sa<|snl h6<|hw_ret ?_
 refine hf_retR2 ok hX RetS.one rfl (rval_tmp rfl) (rval_tmp rfl) [] rfl pre0 (()) (trivial) (by rfl) (by rfl) ((by rw [show ofV L.length mir i=lkI mir i by unfold ofV;rw [if_neg hi]];exact kz_optI _)) ?_
 exact ⟨⟨_,rfl,(okz_rtM rfl rfl rfl rfl rfl rfl rfl)⟩,⟨⟨_,rfl,okz_mps⟩,⟨⟨_,rfl,okz_map⟩,trivial⟩⟩⟩
theorem recM_h (g g2 g3:Nat) (L:List (List Rg)) (mir:List (Int×Int)) (hok:RtOk L mir) (i:Nat) (p:Plc) (hp:p.off≤1099511627776):HFunD Try.prog 53 [.pt 9101 g 0 0,intV (i:Int),plcH p] [(9101,rtO g (.os 9102 g2 0 L.length) (.mp 9103 g3)),(9102,mpsO g2 L),(9103,mirO g3 mir)] (recI (rcdP L mir i p)) [(9101,rtO g (.os 9102 g2 0 L.length) (.mp 9103 g3)),(9102,mpsO g2 L),(9103,mirO g3 mir)]:=by
 intro c
 refine hfun_of Try.func53 rfl kr _ _ _ _ rfl 48 rfl rfl (fun X ok hX=>?_)
 refine srg fun N h1=>?_
 refine hm_1 5 (hop_box (id:=5) (sz:=5) rfl rfl rfl omx omx) rfl rfl pre0 rfl rfl (c':=c+1) rfl ?_
 refine sa<|sa<|sa<|snl h1<|srg fun N h2=>sm<|sm ?_
 refine hq_ 15 (hop_funR (xs:=[_,_]) (pre:=[(9101,_),(9102,_),(9103,_)]) (ofM_h g g2 g3 L mir i) ⟨rfl,⟨rfl,trivial⟩⟩) rfl rfl (preC rfl (preC rfl (preC rfl pre0))) rfl rfl ?_
 refine sm ?_
 refine s0 hex ?_
 refine s0 hex ?_
 refine sa<|sa<|snl h2<|hw_seq fun Nh3 h3=>srg fun N h4=>?_
 first
 | refine hq_ 18 (hop_fa fd_100_1 rfl) rfl rfl pre0 rfl rfl ?_
 | refine hq_ 18 (hop_fa_fp fd_100_1 rfl (by first | exact Nat.le_of_ble_eq_true rfl | omega | (dsimp only;omega) | (simp <;> omega))) rfl rfl pre0 rfl rfl ?_
 first
 | refine hq_ 19 (HOp.val (v':=boolV p.gone) (hol_load ty_4 rfl (by first | exact Nat.le_of_ble_eq_true rfl | omega | (dsimp only;omega) | (simp <;> omega)) (by first | exact Nat.le_of_ble_eq_true rfl | omega | (dsimp only;omega) | (simp <;> omega)) (fun h=>(by first | rfl | cases h))) (rfl)) rfl rfl (pre1 rfl) rfl rfl ?_
 | refine hq_ 19 (HOp.val (v':=boolV p.gone) (hop_load_fp ty_4 rfl (by first | exact Nat.le_of_ble_eq_true rfl | omega | (dsimp only;omega) | (simp <;> omega)) (fun h=>(by first | rfl | cases h))) (rfl)) rfl rfl pre0 rfl rfl ?_
 refine s0 (hop_not rfl) ?_
 refine sm ?_
 first
 | refine stg 21 (fun hb=>hop_move rfl) rfl rfl rfl rfl rfl ?_
 | refine sth 21 (fun hb=>hop_move rfl) rfl rfl rfl rfl rfl ?_
 first
 | refine stg 21 (fun hb=>hop_not rfl) rfl rfl rfl rfl rfl ?_
 | refine sth 21 (fun hb=>hop_not rfl) rfl rfl rfl rfl rfl ?_
 first
 | refine hq_p 24 (hstep_and _ _ rfl rfl rfl) rfl rfl rfl ?_
 | refine hq_p 24 (hstep_or _ _ rfl rfl rfl) rfl rfl rfl ?_
 | refine hq_p 24 (hstep_ite _ _ _ rfl rfl rfl) rfl rfl rfl ?_
 | refine hq_p 24 (hstep_pick _ _ _ _ rfl rfl rfl (fun _=>.refl _) (fun _=>.refl _)) rfl rfl rfl ?_
 refine sm ?_
 first
 | refine stg 25 (fun hb=>hop_move rfl) rfl rfl rfl rfl rfl ?_
 | refine sth 25 (fun hb=>hop_move rfl) rfl rfl rfl rfl rfl ?_
 first
 | refine stg 25 (fun hb=>hop_move rfl) rfl rfl rfl rfl rfl ?_
 | refine sth 25 (fun hb=>hop_move rfl) rfl rfl rfl rfl rfl ?_
 first
 | refine stg 25 (fun hb=>hop_lss rfl rfl) rfl rfl rfl rfl rfl ?_
 | refine sth 25 (fun hb=>hop_lss rfl rfl) rfl rfl rfl rfl rfl ?_
 first
 | refine hq_p 29 (hstep_and _ _ rfl rfl rfl) rfl rfl rfl ?_
 | refine hq_p 29 (hstep_or _ _ rfl rfl rfl) rfl rfl rfl ?_
 | refine hq_p 29 (hstep_ite _ _ _ rfl rfl rfl) rfl rfl rfl ?_
 | refine hq_p 29 (hstep_pick _ _ _ _ rfl rfl rfl (fun _=>.refl _) (fun _=>.refl _)) rfl rfl rfl ?_
 refine nu ?_
 refine h4 _ ?_
 refine wc (fun hc0=>?_) (fun hc0=>?_)
 ·have hr0:=hc0;(try simp only [hcs,Int.reduceToNat] at hc0)
  refine srg fun N h5=>sa<|sa<|sa<|snl h5<|hw_ret<|hq_then_ret ?_
  refine hf_retR3 ok hX RetS.one rfl (rval_tmp rfl) (rval_tmp rfl) (rval_tmp rfl) [] rfl pre0 (()) (trivial) (by rfl) (by rfl) ((kz_recI (rcdP_no hc0))) ?_
  exact ⟨⟨_,rfl,(okz_rtM rfl rfl rfl rfl rfl rfl rfl)⟩,⟨⟨_,rfl,okz_mps⟩,⟨⟨_,rfl,okz_map⟩,trivial⟩⟩⟩
 have hr0:=hc0;(try simp only [hcs,Int.reduceToNat] at hc0)
 have hb1:0≤(ofV L.length mir (i:Int)).getD 0∧(ofV L.length mir (i:Int)).getD 0 < L.length:=(by obtain ⟨k,hk⟩:=Option.isSome_iff_exists.1 hc0.1.2;have hq:=ofV_bd hok hk;rw [hk];exact ⟨hq.1,hq.2.1⟩)
 refine hw_skip<|h3 _<|hw_seq fun Nh6 h6=>hd_start ?_
 refine dm 1 ?_
 first
 | refine hd_q 32 (hop_nilcheck_pt rfl) rfl rfl pre0 rfl rfl (k':=2) rfl ?_
 | refine hd_q 32 (hop_nilcheck_fp rfl) rfl rfl pre0 rfl rfl (k':=2) rfl ?_
 first
 | refine hd_q 33 (hop_fa fd_44_0 rfl) rfl rfl pre0 rfl rfl (k':=3) rfl ?_
 | refine hd_q 33 (hop_fa_fp fd_44_0 rfl (by first | exact Nat.le_of_ble_eq_true rfl | omega | (dsimp only;omega) | (simp <;> omega))) rfl rfl pre0 rfl rfl (k':=3) rfl ?_
 first
 | refine hd_q 34 (hol_load ty_41 rfl (by first | exact Nat.le_of_ble_eq_true rfl | omega | (dsimp only;omega) | (simp <;> omega)) (by first | exact Nat.le_of_ble_eq_true rfl | omega | (dsimp only;omega) | (simp <;> omega)) (fun h=>(by first | rfl | cases h))) rfl rfl (pre1 rfl) rfl rfl (k':=4) rfl ?_
 | refine hd_q 34 (hop_load_fp ty_41 rfl (by first | exact Nat.le_of_ble_eq_true rfl | omega | (dsimp only;omega) | (simp <;> omega)) (fun h=>(by first | rfl | cases h))) rfl rfl pre0 rfl rfl (k':=4) rfl ?_
 refine dm 5 ?_
 first
 | refine hd_q 36 (hop_ia_sl el_41 rfl rfl (by first | exact Nat.le_of_ble_eq_true rfl | omega | (dsimp only;omega) | (simp <;> omega)) (by first | exact Nat.le_of_ble_eq_true rfl | omega | (dsimp only;omega) | (simp <;> omega)) (by first | exact Nat.le_of_ble_eq_true rfl | omega | (dsimp only;omega) | (simp <;> omega))) rfl rfl pre0 rfl rfl (k':=6) rfl ?_
 | refine hd_q 36 (hol_ia_os el_41 rfl rfl (by first | exact Nat.le_of_ble_eq_true rfl | omega | (dsimp only;omega) | (simp <;> omega)) (by first | exact Nat.le_of_ble_eq_true rfl | omega | (dsimp only;omega) | (simp <;> omega))) rfl rfl (pre1 rfl) rfl rfl (k':=6) rfl ?_
 first
 | refine hd_q 37 (HOp.val (v':=rgsV (L.getD ((ofV L.length mir (i:Int)).getD 0).toNat [])) (hol_load ty_48 rfl (by first | exact Nat.le_of_ble_eq_true rfl | omega | (dsimp only;omega) | (simp <;> omega)) (by first | exact Nat.le_of_ble_eq_true rfl | omega | (dsimp only;omega) | (simp <;> omega)) (fun h=>(by first | rfl | cases h))) ((by show rgsV (L.getD (0+((ofV L.length mir (i:Int)).getD 0).toNat) [])=_;rw [Nat.zero_add]))) rfl rfl (pre1 rfl) rfl rfl (k':=7) rfl ?_
 | refine hd_q 37 (HOp.val (v':=rgsV (L.getD ((ofV L.length mir (i:Int)).getD 0).toNat [])) (hop_load_fp ty_48 rfl (by first | exact Nat.le_of_ble_eq_true rfl | omega | (dsimp only;omega) | (simp <;> omega)) (fun h=>(by first | rfl | cases h))) ((by show rgsV (L.getD (0+((ofV L.length mir (i:Int)).getD 0).toNat) [])=_;rw [Nat.zero_add]))) rfl rfl pre0 rfl rfl (k':=7) rfl ?_
 first
 | refine hd_q 38 (hop_fa fd_100_3 rfl) rfl rfl pre0 rfl rfl (k':=8) rfl ?_
 | refine hd_q 38 (hop_fa_fp fd_100_3 rfl (by first | exact Nat.le_of_ble_eq_true rfl | omega | (dsimp only;omega) | (simp <;> omega))) rfl rfl pre0 rfl rfl (k':=8) rfl ?_
 first
 | refine hd_q 39 (HOp.val (v':=intV p.rng) (hol_load ty_3 rfl (by first | exact Nat.le_of_ble_eq_true rfl | omega | (dsimp only;omega) | (simp <;> omega)) (by first | exact Nat.le_of_ble_eq_true rfl | omega | (dsimp only;omega) | (simp <;> omega)) (fun h=>(by first | rfl | cases h))) (rfl)) rfl rfl (pre1 rfl) rfl rfl (k':=9) rfl ?_
 | refine hd_q 39 (HOp.val (v':=intV p.rng) (hop_load_fp ty_3 rfl (by first | exact Nat.le_of_ble_eq_true rfl | omega | (dsimp only;omega) | (simp <;> omega)) (fun h=>(by first | rfl | cases h))) (rfl)) rfl rfl pre0 rfl rfl (k':=9) rfl ?_
 first
 | refine hd_q 40 (hop_fa fd_100_4 rfl) rfl rfl pre0 rfl rfl (k':=10) rfl ?_
 | refine hd_q 40 (hop_fa_fp fd_100_4 rfl (by first | exact Nat.le_of_ble_eq_true rfl | omega | (dsimp only;omega) | (simp <;> omega))) rfl rfl pre0 rfl rfl (k':=10) rfl ?_
 first
 | refine hd_q 41 (HOp.val (v':=intV p.off) (hol_load ty_3 rfl (by first | exact Nat.le_of_ble_eq_true rfl | omega | (dsimp only;omega) | (simp <;> omega)) (by first | exact Nat.le_of_ble_eq_true rfl | omega | (dsimp only;omega) | (simp <;> omega)) (fun h=>(by first | rfl | cases h))) (rfl)) rfl rfl (pre1 rfl) rfl rfl (k':=11) rfl ?_
 | refine hd_q 41 (HOp.val (v':=intV p.off) (hop_load_fp ty_3 rfl (by first | exact Nat.le_of_ble_eq_true rfl | omega | (dsimp only;omega) | (simp <;> omega)) (fun h=>(by first | rfl | cases h))) (rfl)) rfl rfl pre0 rfl rfl (k':=11) rfl ?_
 refine d0 12 (hop_call0 (xs:=[_,_,_]) (recover_h (L.getD ((ofV L.length mir (i:Int)).getD 0).toNat []) p.rng p.off hp) ⟨rfl,⟨rfl,⟨rfl,trivial⟩⟩⟩ ⟨fe,⟨fe,⟨fe,trivial⟩⟩⟩) ?_
 refine dm 13 ?_
 refine d0 14 hex ?_
 refine d0 15 hex ?_
 refine d0 16 (hop_assign rfl) ?_
 refine d0 17 (hop_assign rfl) ?_
 refine hd_nil kr kr (c':=c+18) rfl ?_
 refine h6 _<|srg fun N h7=>sm<|sm<|sm<|sa<|sa<|sa<|snl h7<|hw_ret ?_
 refine hf_retR3 ok hX RetS.one rfl (rval_tmp rfl) (rval_tmp rfl) (rval_tmp rfl) [] rfl pre0 (()) (trivial) (by rfl) (by rfl) ((kz_recI (rcdP_yes hc0))) ?_
 exact ⟨⟨_,rfl,(okz_rtM rfl rfl rfl rfl rfl rfl rfl)⟩,⟨⟨_,rfl,okz_mps⟩,⟨⟨_,rfl,okz_map⟩,trivial⟩⟩⟩
theorem tellM_h (g g2 g3:Nat) (L:List (List Rg)) (mir:List (Int×Int)) (hL:L.length≤100000) (hok:RtOk L mir) (pos side:Int):HFunD Try.prog 25 [.pt 9101 g 0 0,intV pos,intV side] [(9101,rtO g (.os 9102 g2 0 L.length) (.mp 9103 g3)),(9102,mpsO g2 L),(9103,mirO g3 mir)] (t2 (plcH (routeV L mir pos side).1) (intV (routeV L mir pos side).2)) [(9101,rtO g (.os 9102 g2 0 L.length) (.mp 9103 g3)),(9102,mpsO g2 L),(9103,mirO g3 mir)]:=by
 intro c
 refine hfun_of Try.func25 rfl kr _ _ _ _ rfl 77 rfl rfl (fun X ok hX=>?_)
 refine srg fun N h1=>?_
 refine hm_1 6 (hop_alloc (id:=6) (sz:=5) zc_100 rfl rfl omx omx) rfl rfl pre0 rfl rfl (c':=c+1) rfl ?_
 refine sa<|snl h1<|hw_seq fun Nh2 h2=>srg fun N h3=>sm ?_
 first
 | refine hq_ 16 (hop_eql_ptn (by kernel_rfl) rfl rfl) rfl rfl pre0 rfl rfl ?_
 | refine hq_ 16 (hop_eql_fpn (by kernel_rfl) rfl rfl) rfl rfl pre0 rfl rfl ?_
 | refine hq_ 16 (hop_eql_nnp (by kernel_rfl) rfl rfl) rfl rfl pre0 rfl rfl ?_
 | refine hq_ 16 (hop_eql_fp rfl rfl rfl) rfl rfl pre0 rfl rfl ?_
 | refine hq_ 16 (hop_eql_pn rfl rfl rfl) rfl rfl pre0 rfl rfl ?_
 refine snl h3 ?_
 refine wc (fun hc0=>?_) (fun hc0=>?_)
 ·have hr0:=hc0;(try simp only [hcs,Int.reduceToNat] at hc0)
  exfalso;simp at hr0
 have hr0:=hc0;(try simp only [hcs,Int.reduceToNat] at hc0)
 refine hw_skip<|h2 _<|hw_seq fun Nh4 h4=>?_
 let c0:=c
 refine hw_region<|sm ?_
 refine s0 (hop_build (hs:=[(0,1,_)]) st_100 rfl rfl ⟨rfl,rfl,rfl,rfl,rfl,trivial⟩) ?_
 refine hm_1 8 (hop_alloc (id:=8) (sz:=5) zc_100 rfl rfl omx omx) rfl rfl pre0 rfl rfl (c':=c+2) rfl ?_
 first
 | refine hm_s1 (hol_storeW ty_100 rfl rfl rfl rfl) rfl rfl (pre1 rfl) (c':=c+3) rfl ?_
 | refine hm_s1 (hol_store ty_100 rfl rfl rfl rfl (by first | exact Nat.le_of_ble_eq_true rfl | omega | (dsimp only;omega) | (simp <;> omega)) (by first | exact Nat.le_of_ble_eq_true rfl | omega | (dsimp only;omega) | (simp <;> omega)) (by first | exact Nat.le_of_ble_eq_true rfl | omega | (dsimp only;omega) | (simp <;> omega))) rfl rfl (pre1 rfl) (c':=c+3) rfl ?_
 refine snl h4<|hw_seq fun Nh5 h5=>srg fun N h6=>sa<|snl h6<|hw_block ?_
 refine hw_loopc (α:=Nat×Plc) (fun x c=>⟨77,[(0,.v (.pt 9101 g 0 0)),(1,.v (intV pos)),(2,.v (intV side)),(6,.v (.pt 6 c0 0 0)),(7,.v (intV 0)),(8,.v (.pt 8 (c0+1) 0 0)),(9,.v (intV (x.1:Int)))],[(6,plcO c0 ⟨0,false,false,0,0⟩),(8,plcO (c0+1) x.2),(9101,rtO g (.os 9102 g2 0 L.length) (.mp 9103 g3)),(9102,mpsO g2 L),(9103,mirO g3 mir)],c⟩) (fun x=>x.1≤L.length∧goV L mir side x.1 x.2=routeV L mir pos side) (fun x=>L.length - x.1) ((0,⟨pos,false,false,0,0⟩)) (by exact ⟨Nat.zero_le _,rfl⟩) (hsub_of rfl (Nat.le_refl _) (tsr rfl (tsr rfl (tsr rfl (tsr rfl (tsr rfl (tsr rfl (TmSub.cons rfl (sb_intV rfl) TmSub.nil))))))) (HpSub.cons rfl (osub_plc (by exact j5i rfl rfl rfl rfl rfl)) (HpSub.cons rfl (osub_plc (by exact j5i rfl rfl rfl rfl rfl)) hsa))) (fun x c hx NhL7 hL7=>?_)
 revert hx hL7;obtain ⟨i,o⟩:=x;intro hx hL7;dsimp only at hx hL7 ⊢
 obtain ⟨hil,hgo⟩:=hx
 refine hw_seq fun Nh8 h8=>srg fun N h9=>sm<|sm ?_
 first
 | refine hq_ 22 (hop_nilcheck_pt rfl) rfl rfl pre0 rfl rfl ?_
 | refine hq_ 22 (hop_nilcheck_fp rfl) rfl rfl pre0 rfl rfl ?_
 first
 | refine hq_ 23 (hop_fa fd_44_0 rfl) rfl rfl pre0 rfl rfl ?_
 | refine hq_ 23 (hop_fa_fp fd_44_0 rfl (by first | exact Nat.le_of_ble_eq_true rfl | omega | (dsimp only;omega) | (simp <;> omega))) rfl rfl pre0 rfl rfl ?_
 first
 | refine hq_ 24 (hol_load ty_41 rfl (by first | exact Nat.le_of_ble_eq_true rfl | omega | (dsimp only;omega) | (simp <;> omega)) (by first | exact Nat.le_of_ble_eq_true rfl | omega | (dsimp only;omega) | (simp <;> omega)) (fun h=>(by first | rfl | cases h))) rfl rfl (pre1 rfl) rfl rfl ?_
 | refine hq_ 24 (hop_load_fp ty_41 rfl (by first | exact Nat.le_of_ble_eq_true rfl | omega | (dsimp only;omega) | (simp <;> omega)) (fun h=>(by first | rfl | cases h))) rfl rfl pre0 rfl rfl ?_
 first
 | refine hq_ 25 (hop_len_sl (T:=41) rfl (elOf_spec el_41).1 rfl) rfl rfl pre0 rfl rfl ?_
 | refine hq_ 25 (hop_len_os (T:=41) rfl (elOf_spec el_41).1 rfl) rfl rfl pre0 rfl rfl ?_
 | refine hq_ 25 (hop_len_nil (T:=41) rfl (elOf_spec el_41).1 rfl) rfl rfl pre0 rfl rfl ?_
 refine s0 hli ?_
 refine snl h9 ?_
 refine wc (fun hc1=>?_) (fun hc1=>?_)
 ·have hr1:=hc1;(try simp only [hcs,Int.reduceToNat] at hc1)
  have hlt:i < L.length:=om;have hri:=hok.1 i hlt
  refine hw_skip<|h8 _<|hw_seq fun Nh10 h10=>hw_block<|hw_seq fun Nh11 h11=>hd_start ?_
  refine dm 1 ?_
  first
  | refine hd_q 31 (hop_nilcheck_pt rfl) rfl rfl pre0 rfl rfl (k':=2) rfl ?_
  | refine hd_q 31 (hop_nilcheck_fp rfl) rfl rfl pre0 rfl rfl (k':=2) rfl ?_
  first
  | refine hd_q 32 (hop_fa fd_44_0 rfl) rfl rfl pre0 rfl rfl (k':=3) rfl ?_
  | refine hd_q 32 (hop_fa_fp fd_44_0 rfl (by first | exact Nat.le_of_ble_eq_true rfl | omega | (dsimp only;omega) | (simp <;> omega))) rfl rfl pre0 rfl rfl (k':=3) rfl ?_
  first
  | refine hd_q 33 (hol_load ty_41 rfl (by first | exact Nat.le_of_ble_eq_true rfl | omega | (dsimp only;omega) | (simp <;> omega)) (by first | exact Nat.le_of_ble_eq_true rfl | omega | (dsimp only;omega) | (simp <;> omega)) (fun h=>(by first | rfl | cases h))) rfl rfl (pre1 rfl) rfl rfl (k':=4) rfl ?_
  | refine hd_q 33 (hop_load_fp ty_41 rfl (by first | exact Nat.le_of_ble_eq_true rfl | omega | (dsimp only;omega) | (simp <;> omega)) (fun h=>(by first | rfl | cases h))) rfl rfl pre0 rfl rfl (k':=4) rfl ?_
  refine dm 5 ?_
  first
  | refine hd_q 35 (hop_ia_sl el_41 rfl rfl (by first | exact Nat.le_of_ble_eq_true rfl | omega | (dsimp only;omega) | (simp <;> omega)) (by first | exact Nat.le_of_ble_eq_true rfl | omega | (dsimp only;omega) | (simp <;> omega)) (by first | exact Nat.le_of_ble_eq_true rfl | omega | (dsimp only;omega) | (simp <;> omega))) rfl rfl pre0 rfl rfl (k':=6) rfl ?_
  | refine hd_q 35 (hol_ia_os el_41 rfl rfl (by first | exact Nat.le_of_ble_eq_true rfl | omega | (dsimp only;omega) | (simp <;> omega)) (by first | exact Nat.le_of_ble_eq_true rfl | omega | (dsimp only;omega) | (simp <;> omega))) rfl rfl (pre1 rfl) rfl rfl (k':=6) rfl ?_
  first
  | refine hd_q 36 (HOp.val (v':=rgsV (L.getD i [])) (hol_load ty_48 rfl (by first | exact Nat.le_of_ble_eq_true rfl | omega | (dsimp only;omega) | (simp <;> omega)) (by first | exact Nat.le_of_ble_eq_true rfl | omega | (dsimp only;omega) | (simp <;> omega)) (fun h=>(by first | rfl | cases h))) ((by show rgsV (L.getD (0+(i:Int).toNat) [])=_;rw [Nat.zero_add];rfl))) rfl rfl (pre1 rfl) rfl rfl (k':=7) rfl ?_
  | refine hd_q 36 (HOp.val (v':=rgsV (L.getD i [])) (hop_load_fp ty_48 rfl (by first | exact Nat.le_of_ble_eq_true rfl | omega | (dsimp only;omega) | (simp <;> omega)) (fun h=>(by first | rfl | cases h))) ((by show rgsV (L.getD (0+(i:Int).toNat) [])=_;rw [Nat.zero_add];rfl))) rfl rfl pre0 rfl rfl (k':=7) rfl ?_
  first
  | refine hd_q 37 (hop_fa fd_100_0 rfl) rfl rfl pre0 rfl rfl (k':=8) rfl ?_
  | refine hd_q 37 (hop_fa_fp fd_100_0 rfl (by first | exact Nat.le_of_ble_eq_true rfl | omega | (dsimp only;omega) | (simp <;> omega))) rfl rfl pre0 rfl rfl (k':=8) rfl ?_
  first
  | refine hd_q 38 (HOp.val (v':=intV o.pos) (hol_load ty_3 rfl (by first | exact Nat.le_of_ble_eq_true rfl | omega | (dsimp only;omega) | (simp <;> omega)) (by first | exact Nat.le_of_ble_eq_true rfl | omega | (dsimp only;omega) | (simp <;> omega)) (fun h=>(by first | rfl | cases h))) (rfl)) rfl rfl (pre1 rfl) rfl rfl (k':=9) rfl ?_
  | refine hd_q 38 (HOp.val (v':=intV o.pos) (hop_load_fp ty_3 rfl (by first | exact Nat.le_of_ble_eq_true rfl | omega | (dsimp only;omega) | (simp <;> omega)) (fun h=>(by first | rfl | cases h))) (rfl)) rfl rfl pre0 rfl rfl (k':=9) rfl ?_
  refine dm 10 ?_
  refine d0 11 (hop_call0 (xs:=[_,_,_]) (tell_h (L.getD i []) o.pos side) ⟨rfl,⟨rfl,⟨rfl,trivial⟩⟩⟩ ⟨fe,⟨fe,⟨fe,trivial⟩⟩⟩) ?_
  refine dm 12 ?_
  refine d0 13 hex ?_
  refine d0 14 hex ?_
  refine hd_1 10 (hop_alloc (id:=10) (sz:=5) zc_100 rfl rfl omx omx) rfl rfl pre0 rfl rfl (k':=15) rfl ?_
  first
  | refine hd_s1 (hol_storeW ty_100 rfl rfl rfl rfl) rfl rfl (pre1 rfl) (k':=16) rfl ?_
  | refine hd_s1 (hol_store ty_100 rfl rfl rfl rfl (by first | exact Nat.le_of_ble_eq_true rfl | omega | (dsimp only;omega) | (simp <;> omega)) (by first | exact Nat.le_of_ble_eq_true rfl | omega | (dsimp only;omega) | (simp <;> omega)) (by first | exact Nat.le_of_ble_eq_true rfl | omega | (dsimp only;omega) | (simp <;> omega))) rfl rfl (pre1 rfl) (k':=16) rfl ?_
  refine d0 17 (hop_assign rfl) ?_
  refine hd_nil kr kr (c':=c+17) rfl ?_
  refine h11 _<|hw_seq fun Nh12 h12=>srg fun N h13=>sm ?_
  refine s0 (hop_neq rfl rfl) ?_
  refine snl h13 ?_
  refine wc (fun hc2=>?_) (fun hc2=>?_)
  ·have hr2:=hc2;(try simp only [hcs,Int.reduceToNat] at hc2)
   have hbad:o.pos < 0∨1099511627776 < o.pos:=(by refine Classical.byContradiction fun h=>hc2 ?_;unfold tellP;rw [if_pos hri,if_neg h]);have htp:tellP (L.getD i []) o.pos side=(⟨0,false,false,0,0⟩,3):=(by unfold tellP;rw [if_pos hri,if_pos hbad])
   refine srg fun N h14=>?_
   refine s0 (hop_build (hs:=[]) st_100 rfl rfl trivial) ?_
   refine sm ?_
   first
   | refine hm_s1 (hol_storeW ty_100 rfl rfl rfl rfl) rfl rfl (pre1 rfl) (c':=c+18) rfl ?_
   | refine hm_s1 (hol_store ty_100 rfl rfl rfl rfl (by first | exact Nat.le_of_ble_eq_true rfl | omega | (dsimp only;omega) | (simp <;> omega)) (by first | exact Nat.le_of_ble_eq_true rfl | omega | (dsimp only;omega) | (simp <;> omega)) (by first | exact Nat.le_of_ble_eq_true rfl | omega | (dsimp only;omega) | (simp <;> omega))) rfl rfl (pre1 rfl) (c':=c+18) rfl ?_
   refine sa<|snl h14<|hw_ret<|hq_then_ret<|hq_block_ret<|hq_then_ret<|hq_then_ret<|hq_block_ret<|hq_then_ret ?_
   refine hf_retR2 ok hX RetS.one rfl (rvl_cell rfl rfl ty_100 rqc rfl rfl) (rval_tmp rfl) [] rfl pre0 (()) (trivial) (by rfl) (by rfl) ((by rw [←hgo,goV_bad hlt hbad];exact .fz _ _ (fz_t2 (fz_plc (by exact j5i rfl rfl rfl rfl rfl)) (fz_intV (by rw [htp]))))) ?_
   exact ⟨⟨_,rfl,(okz_rtM rfl rfl rfl rfl rfl rfl rfl)⟩,⟨⟨_,rfl,okz_mps⟩,⟨⟨_,rfl,okz_map⟩,trivial⟩⟩⟩
  have hr2:=hc2;(try simp only [hcs,Int.reduceToNat] at hc2)
  have hgood:¬ (o.pos < 0∨1099511627776 < o.pos):=(by intro h;unfold tellP at hc2;rw [if_pos hri,if_pos h] at hc2;cases hc2);have htv:tellP (L.getD i []) o.pos side=(tellV (L.getD i []) o.pos side,0):=(by unfold tellP;rw [if_pos hri,if_neg hgood]);have htb:=tellV_bd hri (pos:=o.pos) (side:=side) om
  refine hw_skip<|h12 _<|hw_seq fun Nh15 h15=>srg fun N h16=>sm<|sm ?_
  first
  | refine hq_ 50 (HOp.val (v':=plcH (tellV (L.getD i []) o.pos side)) (hol_load ty_100 rfl (by first | exact Nat.le_of_ble_eq_true rfl | omega | (dsimp only;omega) | (simp <;> omega)) (by first | exact Nat.le_of_ble_eq_true rfl | omega | (dsimp only;omega) | (simp <;> omega)) (fun h=>(by first | rfl | cases h))) ((by show plcH (tellP (L.getD i []) o.pos side).1=_;rw [htv]))) rfl rfl (pre1 rfl) rfl rfl ?_
  | refine hq_ 50 (HOp.val (v':=plcH (tellV (L.getD i []) o.pos side)) (hop_load_fp ty_100 rfl (by first | exact Nat.le_of_ble_eq_true rfl | omega | (dsimp only;omega) | (simp <;> omega)) (fun h=>(by first | rfl | cases h))) ((by show plcH (tellP (L.getD i []) o.pos side).1=_;rw [htv]))) rfl rfl pre0 rfl rfl ?_
  refine hq_ 51 (hop_funR (xs:=[_,_,_]) (pre:=[(9101,_),(9102,_),(9103,_)]) (recM_h g g2 g3 L mir hok i (tellV (L.getD i []) o.pos side) htb.2.2.2.2.2) ⟨rfl,⟨rfl,⟨rfl,trivial⟩⟩⟩) rfl rfl (preC rfl (preC rfl (preC rfl pre0))) rfl rfl ?_
  refine sm ?_
  refine s0 hex ?_
  refine s0 hex ?_
  refine s0 hex ?_
  refine sa<|sa<|sa<|snl h16<|srg fun N h17=>sm<|snl h17 ?_
  refine wc (fun hc3=>?_) (fun hc3=>?_)
  ·have hr3:=hc3;(try simp only [hcs,Int.reduceToNat] at hc3)
   obtain ⟨k,kx,e1,e2,hk,hik,hx0,hx1⟩:=recd_of hok hc3;rw [e1]
   refine srg fun N h18=>sm<|sm<|sa ?_
   first
   | refine hq_ 58 (hop_fa fd_100_0 rfl) rfl rfl pre0 rfl rfl ?_
   | refine hq_ 58 (hop_fa_fp fd_100_0 rfl (by first | exact Nat.le_of_ble_eq_true rfl | omega | (dsimp only;omega) | (simp <;> omega))) rfl rfl pre0 rfl rfl ?_
   first
   | refine hm_s1 (hol_storeW ty_3 rfl rfl rfl rfl) rfl rfl (pre1 rfl) (c':=c+18) rfl ?_
   | refine hm_s1 (hol_store ty_3 rfl rfl rfl rfl (by first | exact Nat.le_of_ble_eq_true rfl | omega | (dsimp only;omega) | (simp <;> omega)) (by first | exact Nat.le_of_ble_eq_true rfl | omega | (dsimp only;omega) | (simp <;> omega)) (by first | exact Nat.le_of_ble_eq_true rfl | omega | (dsimp only;omega) | (simp <;> omega))) rfl rfl (pre1 rfl) (c':=c+18) rfl ?_
   refine snl h18 ?_
   refine hw_exit ?_
   refine hq_then_exit<|hq_block_here<|h10 _<|hw_region<|sm ?_
   first
   | refine hq_ 28 (hop_addi rfl rfl rfl (by first | exact Nat.le_of_ble_eq_true rfl | omega | (dsimp only;omega) | (simp <;> omega)) (by first | exact Nat.le_of_ble_eq_true rfl | omega | (dsimp only;omega) | (simp <;> omega))) rfl rfl pre0 rfl rfl ?_
   | refine hq_ 28 (hop_add rfl rfl) rfl rfl pre0 rfl rfl ?_
   refine sa<|hseq_nil ?_
   exact hL7 ((k+1,⟨kx,o.gone,o.ins,o.rng,o.off⟩)) _ _ (by (try dsimp only);exact ⟨by omega,by rw [←hgo,goV_rec hlt hgood e2]⟩) (by (try dsimp only);omega) (hsub_of rfl (Nat.le_refl _) tsa (hsr rfl (HpSub.cons rfl (osub_plc (by exact j5i rfl rfl rfl rfl rfl)) hsa)))
  have hr3:=hc3;(try simp only [hcs,Int.reduceToNat] at hc3)
  have e2:=recd_not hc3
  refine hw_skip<|h15 _<|srg fun N h19=>?_
  first
  | refine hq_ 59 (hop_fa fd_100_0 rfl) rfl rfl pre0 rfl rfl ?_
  | refine hq_ 59 (hop_fa_fp fd_100_0 rfl (by first | exact Nat.le_of_ble_eq_true rfl | omega | (dsimp only;omega) | (simp <;> omega))) rfl rfl pre0 rfl rfl ?_
  first
  | refine hq_ 60 (HOp.val (v':=intV (tellV (L.getD i []) o.pos side).pos) (hol_load ty_3 rfl (by first | exact Nat.le_of_ble_eq_true rfl | omega | (dsimp only;omega) | (simp <;> omega)) (by first | exact Nat.le_of_ble_eq_true rfl | omega | (dsimp only;omega) | (simp <;> omega)) (fun h=>(by first | rfl | cases h))) ((by show intV (tellP (L.getD i []) o.pos side).1.pos=_;rw [htv]))) rfl rfl (pre1 rfl) rfl rfl ?_
  | refine hq_ 60 (HOp.val (v':=intV (tellV (L.getD i []) o.pos side).pos) (hop_load_fp ty_3 rfl (by first | exact Nat.le_of_ble_eq_true rfl | omega | (dsimp only;omega) | (simp <;> omega)) (fun h=>(by first | rfl | cases h))) ((by show intV (tellP (L.getD i []) o.pos side).1.pos=_;rw [htv]))) rfl rfl pre0 rfl rfl ?_
  first
  | refine hq_ 61 (hop_fa fd_100_0 rfl) rfl rfl pre0 rfl rfl ?_
  | refine hq_ 61 (hop_fa_fp fd_100_0 rfl (by first | exact Nat.le_of_ble_eq_true rfl | omega | (dsimp only;omega) | (simp <;> omega))) rfl rfl pre0 rfl rfl ?_
  first
  | refine hm_s1 (hol_storeW ty_3 rfl rfl rfl rfl) rfl rfl (pre1 rfl) (c':=c+18) rfl ?_
  | refine hm_s1 (hol_store ty_3 rfl rfl rfl rfl (by first | exact Nat.le_of_ble_eq_true rfl | omega | (dsimp only;omega) | (simp <;> omega)) (by first | exact Nat.le_of_ble_eq_true rfl | omega | (dsimp only;omega) | (simp <;> omega)) (by first | exact Nat.le_of_ble_eq_true rfl | omega | (dsimp only;omega) | (simp <;> omega))) rfl rfl (pre1 rfl) (c':=c+18) rfl ?_
  refine snl h19<|srg fun N h20=>?_
  first
  | refine hq_ 62 (hop_fa fd_100_1 rfl) rfl rfl pre0 rfl rfl ?_
  | refine hq_ 62 (hop_fa_fp fd_100_1 rfl (by first | exact Nat.le_of_ble_eq_true rfl | omega | (dsimp only;omega) | (simp <;> omega))) rfl rfl pre0 rfl rfl ?_
  first
  | refine hq_ 63 (HOp.val (v':=boolV o.gone) (hol_load ty_4 rfl (by first | exact Nat.le_of_ble_eq_true rfl | omega | (dsimp only;omega) | (simp <;> omega)) (by first | exact Nat.le_of_ble_eq_true rfl | omega | (dsimp only;omega) | (simp <;> omega)) (fun h=>(by first | rfl | cases h))) (rfl)) rfl rfl (pre1 rfl) rfl rfl ?_
  | refine hq_ 63 (HOp.val (v':=boolV o.gone) (hop_load_fp ty_4 rfl (by first | exact Nat.le_of_ble_eq_true rfl | omega | (dsimp only;omega) | (simp <;> omega)) (fun h=>(by first | rfl | cases h))) (rfl)) rfl rfl pre0 rfl rfl ?_
  refine sm ?_
  first
  | refine stg 64 (fun hb=>hop_fa fd_100_1 rfl) rfl rfl rfl rfl rfl ?_
  | refine sth 64 (fun hb=>hop_fa fd_100_1 rfl) rfl rfl rfl rfl rfl ?_
  | refine stg 64 (fun hb=>hop_fa_fp fd_100_1 rfl (by first | exact Nat.le_of_ble_eq_true rfl | (simp at hb;first | omega | (dsimp only;omega) | (simp <;> omega)) | omega | (dsimp only;omega))) rfl rfl rfl rfl rfl ?_
  | refine sth 64 (fun hb=>hop_fa_fp fd_100_1 rfl (by first | exact Nat.le_of_ble_eq_true rfl | (simp at hb;first | omega | (dsimp only;omega) | (simp <;> omega)) | omega | (dsimp only;omega))) rfl rfl rfl rfl rfl ?_
  first
  | refine hq_g 66 2 64 false _ (fun hb=>HOp.val (v':=boolV (tellV (L.getD i []) o.pos side).gone) (hol_load ty_4 rfl (by first | exact Nat.le_of_ble_eq_true rfl | (simp at hb;first | omega | (dsimp only;omega) | (simp <;> omega)) | omega | (dsimp only;omega)) (by first | exact Nat.le_of_ble_eq_true rfl | (simp at hb;first | omega | (dsimp only;omega) | (simp <;> omega)) | omega | (dsimp only;omega)) (fun h=>(by first | rfl | cases h))) ((by show boolV (tellP (L.getD i []) o.pos side).1.gone=_;rw [htv]))) rfl rfl rfl rfl (pre1 rfl) rfl rfl rfl ?_
  | refine hq_g2 66 2 64 _ _ false _ (fun hb=>HOp.val (v':=boolV (tellV (L.getD i []) o.pos side).gone) (hol_load ty_4 rfl (by first | exact Nat.le_of_ble_eq_true rfl | (simp at hb;first | omega | (dsimp only;omega) | (simp <;> omega)) | omega | (dsimp only;omega)) (by first | exact Nat.le_of_ble_eq_true rfl | (simp at hb;first | omega | (dsimp only;omega) | (simp <;> omega)) | omega | (dsimp only;omega)) (fun h=>(by first | rfl | cases h))) ((by show boolV (tellP (L.getD i []) o.pos side).1.gone=_;rw [htv]))) rfl rfl rfl rfl (pre1 rfl) rfl rfl rfl ?_
  | refine stg 64 (fun hb=>HOp.val (v':=boolV (tellV (L.getD i []) o.pos side).gone) (hop_load_fp ty_4 rfl (by first | exact Nat.le_of_ble_eq_true rfl | (simp at hb;first | omega | (dsimp only;omega) | (simp <;> omega)) | omega | (dsimp only;omega)) (fun h=>(by first | rfl | cases h))) ((by show boolV (tellP (L.getD i []) o.pos side).1.gone=_;rw [htv]))) rfl rfl rfl rfl rfl ?_
  | refine sth 64 (fun hb=>HOp.val (v':=boolV (tellV (L.getD i []) o.pos side).gone) (hop_load_fp ty_4 rfl (by first | exact Nat.le_of_ble_eq_true rfl | (simp at hb;first | omega | (dsimp only;omega) | (simp <;> omega)) | omega | (dsimp only;omega)) (fun h=>(by first | rfl | cases h))) ((by show boolV (tellP (L.getD i []) o.pos side).1.gone=_;rw [htv]))) rfl rfl rfl rfl rfl ?_
  first
  | refine hq_p 67 (hstep_and _ _ rfl rfl rfl) rfl rfl rfl ?_
  | refine hq_p 67 (hstep_or _ _ rfl rfl rfl) rfl rfl rfl ?_
  | refine hq_p 67 (hstep_ite _ _ _ rfl rfl rfl) rfl rfl rfl ?_
  | refine hq_p 67 (hstep_pick _ _ _ _ rfl rfl rfl (fun _=>.refl _) (fun _=>.refl _)) rfl rfl rfl ?_
  first
  | refine hq_ 68 (hop_fa fd_100_1 rfl) rfl rfl pre0 rfl rfl ?_
  | refine hq_ 68 (hop_fa_fp fd_100_1 rfl (by first | exact Nat.le_of_ble_eq_true rfl | omega | (dsimp only;omega) | (simp <;> omega))) rfl rfl pre0 rfl rfl ?_
  first
  | refine hm_s1 (hol_storeW ty_4 rfl rfl rfl rfl) rfl rfl (pre1 rfl) (c':=c+19) rfl ?_
  | refine hm_s1 (hol_store ty_4 rfl rfl rfl rfl (by first | exact Nat.le_of_ble_eq_true rfl | omega | (dsimp only;omega) | (simp <;> omega)) (by first | exact Nat.le_of_ble_eq_true rfl | omega | (dsimp only;omega) | (simp <;> omega)) (by first | exact Nat.le_of_ble_eq_true rfl | omega | (dsimp only;omega) | (simp <;> omega))) rfl rfl (pre1 rfl) (c':=c+19) rfl ?_
  refine nu ?_
  refine h20 _<|hw_region ?_
  first
  | refine hq_ 69 (hop_fa fd_100_2 rfl) rfl rfl pre0 rfl rfl ?_
  | refine hq_ 69 (hop_fa_fp fd_100_2 rfl (by first | exact Nat.le_of_ble_eq_true rfl | omega | (dsimp only;omega) | (simp <;> omega))) rfl rfl pre0 rfl rfl ?_
  first
  | refine hq_ 70 (HOp.val (v':=boolV o.ins) (hol_load ty_4 rfl (by first | exact Nat.le_of_ble_eq_true rfl | omega | (dsimp only;omega) | (simp <;> omega)) (by first | exact Nat.le_of_ble_eq_true rfl | omega | (dsimp only;omega) | (simp <;> omega)) (fun h=>(by first | rfl | cases h))) (rfl)) rfl rfl (pre1 rfl) rfl rfl ?_
  | refine hq_ 70 (HOp.val (v':=boolV o.ins) (hop_load_fp ty_4 rfl (by first | exact Nat.le_of_ble_eq_true rfl | omega | (dsimp only;omega) | (simp <;> omega)) (fun h=>(by first | rfl | cases h))) (rfl)) rfl rfl pre0 rfl rfl ?_
  refine sm ?_
  first
  | refine stg 71 (fun hb=>hop_fa fd_100_2 rfl) rfl rfl rfl rfl rfl ?_
  | refine sth 71 (fun hb=>hop_fa fd_100_2 rfl) rfl rfl rfl rfl rfl ?_
  | refine stg 71 (fun hb=>hop_fa_fp fd_100_2 rfl (by first | exact Nat.le_of_ble_eq_true rfl | (simp at hb;first | omega | (dsimp only;omega) | (simp <;> omega)) | omega | (dsimp only;omega))) rfl rfl rfl rfl rfl ?_
  | refine sth 71 (fun hb=>hop_fa_fp fd_100_2 rfl (by first | exact Nat.le_of_ble_eq_true rfl | (simp at hb;first | omega | (dsimp only;omega) | (simp <;> omega)) | omega | (dsimp only;omega))) rfl rfl rfl rfl rfl ?_
  first
  | refine hq_g 73 2 71 false _ (fun hb=>HOp.val (v':=boolV (tellV (L.getD i []) o.pos side).ins) (hol_load ty_4 rfl (by first | exact Nat.le_of_ble_eq_true rfl | (simp at hb;first | omega | (dsimp only;omega) | (simp <;> omega)) | omega | (dsimp only;omega)) (by first | exact Nat.le_of_ble_eq_true rfl | (simp at hb;first | omega | (dsimp only;omega) | (simp <;> omega)) | omega | (dsimp only;omega)) (fun h=>(by first | rfl | cases h))) ((by show boolV (tellP (L.getD i []) o.pos side).1.ins=_;rw [htv]))) rfl rfl rfl rfl (pre1 rfl) rfl rfl rfl ?_
  | refine hq_g2 73 2 71 _ _ false _ (fun hb=>HOp.val (v':=boolV (tellV (L.getD i []) o.pos side).ins) (hol_load ty_4 rfl (by first | exact Nat.le_of_ble_eq_true rfl | (simp at hb;first | omega | (dsimp only;omega) | (simp <;> omega)) | omega | (dsimp only;omega)) (by first | exact Nat.le_of_ble_eq_true rfl | (simp at hb;first | omega | (dsimp only;omega) | (simp <;> omega)) | omega | (dsimp only;omega)) (fun h=>(by first | rfl | cases h))) ((by show boolV (tellP (L.getD i []) o.pos side).1.ins=_;rw [htv]))) rfl rfl rfl rfl (pre1 rfl) rfl rfl rfl ?_
  | refine stg 71 (fun hb=>HOp.val (v':=boolV (tellV (L.getD i []) o.pos side).ins) (hop_load_fp ty_4 rfl (by first | exact Nat.le_of_ble_eq_true rfl | (simp at hb;first | omega | (dsimp only;omega) | (simp <;> omega)) | omega | (dsimp only;omega)) (fun h=>(by first | rfl | cases h))) ((by show boolV (tellP (L.getD i []) o.pos side).1.ins=_;rw [htv]))) rfl rfl rfl rfl rfl ?_
  | refine sth 71 (fun hb=>HOp.val (v':=boolV (tellV (L.getD i []) o.pos side).ins) (hop_load_fp ty_4 rfl (by first | exact Nat.le_of_ble_eq_true rfl | (simp at hb;first | omega | (dsimp only;omega) | (simp <;> omega)) | omega | (dsimp only;omega)) (fun h=>(by first | rfl | cases h))) ((by show boolV (tellP (L.getD i []) o.pos side).1.ins=_;rw [htv]))) rfl rfl rfl rfl rfl ?_
  first
  | refine hq_p 74 (hstep_and _ _ rfl rfl rfl) rfl rfl rfl ?_
  | refine hq_p 74 (hstep_or _ _ rfl rfl rfl) rfl rfl rfl ?_
  | refine hq_p 74 (hstep_ite _ _ _ rfl rfl rfl) rfl rfl rfl ?_
  | refine hq_p 74 (hstep_pick _ _ _ _ rfl rfl rfl (fun _=>.refl _) (fun _=>.refl _)) rfl rfl rfl ?_
  first
  | refine hq_ 75 (hop_fa fd_100_2 rfl) rfl rfl pre0 rfl rfl ?_
  | refine hq_ 75 (hop_fa_fp fd_100_2 rfl (by first | exact Nat.le_of_ble_eq_true rfl | omega | (dsimp only;omega) | (simp <;> omega))) rfl rfl pre0 rfl rfl ?_
  first
  | refine hm_s1 (hol_storeW ty_4 rfl rfl rfl rfl) rfl rfl (pre1 rfl) (c':=c+20) rfl ?_
  | refine hm_s1 (hol_store ty_4 rfl rfl rfl rfl (by first | exact Nat.le_of_ble_eq_true rfl | omega | (dsimp only;omega) | (simp <;> omega)) (by first | exact Nat.le_of_ble_eq_true rfl | omega | (dsimp only;omega) | (simp <;> omega)) (by first | exact Nat.le_of_ble_eq_true rfl | omega | (dsimp only;omega) | (simp <;> omega))) rfl rfl (pre1 rfl) (c':=c+20) rfl ?_
  refine nu ?_
  refine hq_block<|h10 _<|hw_region<|sm ?_
  first
  | refine hq_ 28 (hop_addi rfl rfl rfl (by first | exact Nat.le_of_ble_eq_true rfl | omega | (dsimp only;omega) | (simp <;> omega)) (by first | exact Nat.le_of_ble_eq_true rfl | omega | (dsimp only;omega) | (simp <;> omega))) rfl rfl pre0 rfl rfl ?_
  | refine hq_ 28 (hop_add rfl rfl) rfl rfl pre0 rfl rfl ?_
  refine sa<|hseq_nil ?_
  exact hL7 ((i+1,⟨(tellV (L.getD i []) o.pos side).pos,o.gone||(tellV (L.getD i []) o.pos side).gone,o.ins||(tellV (L.getD i []) o.pos side).ins,o.rng,o.off⟩)) _ _ (by (try dsimp only);exact ⟨by omega,by rw [←hgo,goV_on hlt hgood e2]⟩) (by (try dsimp only);omega) (hsub_of rfl (Nat.le_refl _) tsa (hsr rfl (HpSub.cons rfl (osub_plc (by exact j5i rfl rfl rfl rfl rfl)) hsa)))
 have hr1:=hc1;(try simp only [hcs,Int.reduceToNat] at hc1)
 have hie:L.length≤i:=om
 refine hw_exit ?_
 refine hq_then_exit<|hq_then_exit<|hq_block_here<|h5 _<|srg fun N h21=>?_
 first
 | refine hq_ 76 (hol_load ty_100 rfl (by first | exact Nat.le_of_ble_eq_true rfl | omega | (dsimp only;omega) | (simp <;> omega)) (by first | exact Nat.le_of_ble_eq_true rfl | omega | (dsimp only;omega) | (simp <;> omega)) (fun h=>(by first | rfl | cases h))) rfl rfl (pre1 rfl) rfl rfl ?_
 | refine hq_ 76 (hop_load_fp ty_100 rfl (by first | exact Nat.le_of_ble_eq_true rfl | omega | (dsimp only;omega) | (simp <;> omega)) (fun h=>(by first | rfl | cases h))) rfl rfl pre0 rfl rfl ?_
 first
 | refine hm_s1 (hol_storeW ty_100 rfl rfl rfl rfl) rfl rfl (pre1 rfl) (c':=c+1) rfl ?_
 | refine hm_s1 (hol_store ty_100 rfl rfl rfl rfl (by first | exact Nat.le_of_ble_eq_true rfl | omega | (dsimp only;omega) | (simp <;> omega)) (by first | exact Nat.le_of_ble_eq_true rfl | omega | (dsimp only;omega) | (simp <;> omega)) (by first | exact Nat.le_of_ble_eq_true rfl | omega | (dsimp only;omega) | (simp <;> omega))) rfl rfl (pre1 rfl) (c':=c+1) rfl ?_
 refine sa<|snl h21<|hw_ret ?_
 refine hf_retR2 ok hX RetS.one rfl (rvl_cell rfl rfl ty_100 rqc rfl rfl) (rval_tmp rfl) [] rfl pre0 (()) (trivial) (by rfl) (by rfl) ((by rw [←hgo,goV_end hie];exact .fz _ _ (fz_t2 (fz_plc (by exact j5i rfl rfl rfl rfl rfl)) (.imm _)))) ?_
 exact ⟨⟨_,rfl,(okz_rtM rfl rfl rfl rfl rfl rfl rfl)⟩,⟨⟨_,rfl,okz_mps⟩,⟨⟨_,rfl,okz_map⟩,trivial⟩⟩⟩
theorem addM_h (c:Nat) (g g2 g3:Nat) (L:List (List Rg)) (mir:List (Int×Int)) (hL:L.length < 5000) (m:List Rg) (hm:rightM m=true):HFun Try.prog 21 c [.pt 9101 g 0 0,rgsV m] [(9101,rtO g (.os 9102 g2 0 L.length) (.mp 9103 g3)),(9102,mpsO g2 L),(9103,mirO g3 mir)]
  (RetP (fun (_:Nat) _=>True) (fun _=>intV 0) (fun g'=>[(9101,rtO g (.os 9102 g' 0 (L++[m]).length) (.mp 9103 g3)),(9102,mpsO g' (L++[m])),(9103,mirO g3 mir)])):=by
 have hml:=(rightM_iff.1 hm).1
 refine hfun_of Try.func21 rfl kr _ _ _ _ rfl 30 rfl rfl (fun X ok hX=>?_)
 refine srg fun N h1=>sa<|snl h1<|hw_seq fun Nh2 h2=>hw_block<|srg fun N h3=>sm ?_
 first
 | refine hq_ 7 (hop_eql_ptn (by kernel_rfl) rfl rfl) rfl rfl pre0 rfl rfl ?_
 | refine hq_ 7 (hop_eql_fpn (by kernel_rfl) rfl rfl) rfl rfl pre0 rfl rfl ?_
 | refine hq_ 7 (hop_eql_nnp (by kernel_rfl) rfl rfl) rfl rfl pre0 rfl rfl ?_
 | refine hq_ 7 (hop_eql_fp rfl rfl rfl) rfl rfl pre0 rfl rfl ?_
 | refine hq_ 7 (hop_eql_pn rfl rfl rfl) rfl rfl pre0 rfl rfl ?_
 refine sa<|snl h3 ?_
 refine wc (fun hc0=>?_) (fun hc0=>?_)
 ·have hr0:=hc0;(try simp only [hcs,Int.reduceToNat] at hc0)
  exfalso;simp at hr0
 have hr0:=hc0;(try simp only [hcs,Int.reduceToNat] at hc0)
 refine srg fun N h4=>sm ?_
 refine s0 (hop_call0 (xs:=[_]) (right_h m) ⟨rfl,trivial⟩ ⟨fe,trivial⟩) ?_
 refine s0 (hop_not rfl) ?_
 refine sa<|snl h4 ?_
 refine wc (fun hc1=>?_) (fun hc1=>?_)
 ·have hr1:=hc1;(try simp only [hcs,Int.reduceToNat] at hc1)
  exfalso;rw [hm] at hr1;simp at hr1
 have hr1:=hc1;(try simp only [hcs,Int.reduceToNat] at hc1)
 refine srg fun N h5=>sm ?_
 first
 | refine hq_ 14 (hop_nilcheck_pt rfl) rfl rfl pre0 rfl rfl ?_
 | refine hq_ 14 (hop_nilcheck_fp rfl) rfl rfl pre0 rfl rfl ?_
 first
 | refine hq_ 15 (hop_fa fd_44_0 rfl) rfl rfl pre0 rfl rfl ?_
 | refine hq_ 15 (hop_fa_fp fd_44_0 rfl (by first | exact Nat.le_of_ble_eq_true rfl | omega | (dsimp only;omega) | (simp <;> omega))) rfl rfl pre0 rfl rfl ?_
 first
 | refine hq_ 16 (hol_load ty_41 rfl (by first | exact Nat.le_of_ble_eq_true rfl | omega | (dsimp only;omega) | (simp <;> omega)) (by first | exact Nat.le_of_ble_eq_true rfl | omega | (dsimp only;omega) | (simp <;> omega)) (fun h=>(by first | rfl | cases h))) rfl rfl (pre1 rfl) rfl rfl ?_
 | refine hq_ 16 (hop_load_fp ty_41 rfl (by first | exact Nat.le_of_ble_eq_true rfl | omega | (dsimp only;omega) | (simp <;> omega)) (fun h=>(by first | rfl | cases h))) rfl rfl pre0 rfl rfl ?_
 first
 | refine hq_ 17 (hop_len_sl (T:=41) rfl (elOf_spec el_41).1 rfl) rfl rfl pre0 rfl rfl ?_
 | refine hq_ 17 (hop_len_os (T:=41) rfl (elOf_spec el_41).1 rfl) rfl rfl pre0 rfl rfl ?_
 | refine hq_ 17 (hop_len_nil (T:=41) rfl (elOf_spec el_41).1 rfl) rfl rfl pre0 rfl rfl ?_
 refine s0 hqi ?_
 refine sa<|snl h5 ?_
 refine wc (fun hc2=>?_) (fun hc2=>?_)
 ·have hr2:=hc2;(try simp only [hcs,Int.reduceToNat] at hc2)
  exfalso;omega
 have hr2:=hc2;(try simp only [hcs,Int.reduceToNat] at hc2)
 refine hw_skip<|hq_block<|h2 _<|hw_seq fun Nh6 h6=>hd_start ?_
 refine dm 1 ?_
 refine dm 2 ?_
 first
 | refine hd_q 21 (hop_nilcheck_pt rfl) rfl rfl pre0 rfl rfl (k':=3) rfl ?_
 | refine hd_q 21 (hop_nilcheck_fp rfl) rfl rfl pre0 rfl rfl (k':=3) rfl ?_
 first
 | refine hd_q 22 (hop_fa fd_44_0 rfl) rfl rfl pre0 rfl rfl (k':=4) rfl ?_
 | refine hd_q 22 (hop_fa_fp fd_44_0 rfl (by first | exact Nat.le_of_ble_eq_true rfl | omega | (dsimp only;omega) | (simp <;> omega))) rfl rfl pre0 rfl rfl (k':=4) rfl ?_
 first
 | refine hd_q 23 (hol_load ty_41 rfl (by first | exact Nat.le_of_ble_eq_true rfl | omega | (dsimp only;omega) | (simp <;> omega)) (by first | exact Nat.le_of_ble_eq_true rfl | omega | (dsimp only;omega) | (simp <;> omega)) (fun h=>(by first | rfl | cases h))) rfl rfl (pre1 rfl) rfl rfl (k':=5) rfl ?_
 | refine hd_q 23 (hop_load_fp ty_41 rfl (by first | exact Nat.le_of_ble_eq_true rfl | omega | (dsimp only;omega) | (simp <;> omega)) (fun h=>(by first | rfl | cases h))) rfl rfl pre0 rfl rfl (k':=5) rfl ?_
 refine dm 6 ?_
 refine d0 7 (hop_call0 (xs:=[_]) (cloneR_h m om) ⟨rfl,trivial⟩ ⟨fe,trivial⟩) ?_
 refine hd_1 26 (hop_buildSlice (id:=26) (hs:=[_]) ei_41 omx rfl omx ⟨rfl,rfl,rfl,rfl,trivial⟩) rfl rfl pre0 rfl rfl (k':=8) rfl ?_
 first
 | refine hd_1 27 (hol_append ei_41 (by first | exact Nat.le_of_ble_eq_true rfl | omega | (dsimp only;omega) | (simp <;> omega)) rfl (by first | exact Nat.le_of_ble_eq_true rfl | omega | (dsimp only;omega) | (simp <;> omega)) (by first | exact Nat.le_of_ble_eq_true rfl | omega | (dsimp only;omega) | (simp <;> omega)) (srl_os0 rfl (by first | exact Nat.le_of_ble_eq_true rfl | omega | (dsimp only;omega) | (simp <;> omega))) (by first | exact Nat.le_of_ble_eq_true rfl | omega | (dsimp only;omega) | (simp <;> omega)) rfl) rfl rfl (preC rfl (pre1 rfl)) rfl rfl (k':=9) rfl ?_
 | refine hd_1 27 (hol_append ei_41 (by first | exact Nat.le_of_ble_eq_true rfl | omega | (dsimp only;omega) | (simp <;> omega)) rfl (by first | exact Nat.le_of_ble_eq_true rfl | omega | (dsimp only;omega) | (simp <;> omega)) (by first | exact Nat.le_of_ble_eq_true rfl | omega | (dsimp only;omega) | (simp <;> omega)) (srl_os rfl (by first | exact Nat.le_of_ble_eq_true rfl | omega | (dsimp only;omega) | (simp <;> omega))) (by first | exact Nat.le_of_ble_eq_true rfl | omega | (dsimp only;omega) | (simp <;> omega)) rfl) rfl rfl (preC rfl (pre1 rfl)) rfl rfl (k':=9) rfl ?_
 | refine hd_1 27 (hol_append ei_41 (by first | exact Nat.le_of_ble_eq_true rfl | omega | (dsimp only;omega) | (simp <;> omega)) rfl (by first | exact Nat.le_of_ble_eq_true rfl | omega | (dsimp only;omega) | (simp <;> omega)) (by first | exact Nat.le_of_ble_eq_true rfl | omega | (dsimp only;omega) | (simp <;> omega)) (src_sl rfl) (by first | exact Nat.le_of_ble_eq_true rfl | omega | (dsimp only;omega) | (simp <;> omega)) rfl) rfl rfl (preC rfl pre0) rfl rfl (k':=9) rfl ?_
 | refine hd_1 27 (hol_append ei_41 (by first | exact Nat.le_of_ble_eq_true rfl | omega | (dsimp only;omega) | (simp <;> omega)) rfl (by first | exact Nat.le_of_ble_eq_true rfl | omega | (dsimp only;omega) | (simp <;> omega)) (by first | exact Nat.le_of_ble_eq_true rfl | omega | (dsimp only;omega) | (simp <;> omega)) (src_nil 1 (fun _ _=>default) rfl) (by first | exact Nat.le_of_ble_eq_true rfl | omega | (dsimp only;omega) | (simp <;> omega)) rfl) rfl rfl (preC rfl pre0) rfl rfl (k':=9) rfl ?_
 first
 | refine hd_q 28 (hop_nilcheck_pt rfl) rfl rfl pre0 rfl rfl (k':=10) rfl ?_
 | refine hd_q 28 (hop_nilcheck_fp rfl) rfl rfl pre0 rfl rfl (k':=10) rfl ?_
 first
 | refine hd_q 29 (hop_fa fd_44_0 rfl) rfl rfl pre0 rfl rfl (k':=11) rfl ?_
 | refine hd_q 29 (hop_fa_fp fd_44_0 rfl (by first | exact Nat.le_of_ble_eq_true rfl | omega | (dsimp only;omega) | (simp <;> omega))) rfl rfl pre0 rfl rfl (k':=11) rfl ?_
 first
 | refine hd_s1 (hol_storeW ty_41 rfl rfl rfl rfl) rfl rfl (pre1 rfl) (k':=12) rfl ?_
 | refine hd_s1 (hol_store ty_41 rfl rfl rfl rfl (by first | exact Nat.le_of_ble_eq_true rfl | omega | (dsimp only;omega) | (simp <;> omega)) (by first | exact Nat.le_of_ble_eq_true rfl | omega | (dsimp only;omega) | (simp <;> omega)) (by first | exact Nat.le_of_ble_eq_true rfl | omega | (dsimp only;omega) | (simp <;> omega))) rfl rfl (pre1 rfl) (k':=12) rfl ?_
 refine hd_nil kr kr (c':=c+12) rfl ?_
 refine h6 _<|srg fun N h7=>sa<|snl h7<|hw_ret ?_
 refine hf_retR1 ok hX RetS.one rfl (rval_tmp rfl) [] rfl pre0 ((c+8)) (trivial) (by rfl) (by rfl) (kza) ?_
 exact ⟨⟨_,rfl,(okz_rtM rfl rfl (by simp) rfl rfl rfl rfl)⟩,⟨⟨_,rfl,(okz_mpsS rfl)⟩,⟨⟨_,rfl,okz_map⟩,trivial⟩⟩⟩
def mirS (mir:List (Int×Int)) (a b:Int):List (Int×Int):=mir++[(a,b),(b,a)]
theorem mput_none {l:List (Int×Value)} {a:Int} {v:Value} (h:mfind a l 0=none):mput l a v=l++[(a,v)]:=by unfold mput;rw [h]
theorem mfind_no {mir:List (Int×Int)} {a:Int} (h:lkI mir a=none):mfind a (mirE mir) 0=none:=by
 have:=mfind_mir a mir 0
 rw [h] at this
 cases hm:mfind a (mirE mir) 0 with
 | none=>rfl
 | some p=>rw [hm] at this;cases this
theorem lkI_snoc (mir:List (Int×Int)) (p:Int×Int) (i:Int):lkI (mir++[p]) i=match lkI mir i with | some k=>some k | none=>if i=p.1 then some p.2 else none:=by
  induction mir with
  | nil=>show (if i=p.1 then some p.2 else lkI [] i)=_;rfl
  | cons q r ih =>
    show (if i=q.1 then some q.2 else lkI (r++[p]) i)=match (if i=q.1 then some q.2 else lkI r i) with | some k=>some k | none=>_
    by_cases e:i=q.1
    · rw [if_pos e,if_pos e]
    · rw [if_neg e,if_neg e,ih]
theorem mirE_snoc (mir:List (Int×Int)) (p:Int×Int):mirE (mir++[p])=mirE mir++[(p.1,Value.int .i64 p.2)]:=by simp [mirE]
@[reducible] def zI:Value:=.int .i64 0
def mp1 (mir:List (Int×Int)) (a b:Int):List (Int×Value):=mset (ment (mirE mir) a zI) (mslot (mirE mir) a zI).1 (intK b)
def mp2 (mir:List (Int×Int)) (a b:Int):List (Int×Value):=mset (ment (mp1 mir a b) b zI) (mslot (mp1 mir a b) b zI).1 (intK a)
theorem mp1_eq {mir:List (Int×Int)} {a b:Int} (ha:lkI mir a=none):mp1 mir a b=mirE (mir++[(a,b)]):=by
 unfold mp1;rw [mset_ment,mput_none (mfind_no ha),mirE_snoc]
theorem mp2_eq {mir:List (Int×Int)} {a b:Int} (ha:lkI mir a=none) (hb:lkI mir b=none) (hab:b≠a):mp2 mir a b=mirE (mirS mir a b):=by
 unfold mp2
 rw [mset_ment,mp1_eq ha,mput_none (mfind_no (by rw [lkI_snoc,hb];exact if_neg hab))]
 show _=mirE (mir++([(a,b)]++[(b,a)]))
 rw [←List.append_assoc,mirE_snoc (mir++[(a,b)])]
theorem okz_mapE {kp sh:List (Nat×HObj)} {g:Nat} {l l':List (Value×Value)} (h:l=l'):OKz kp sh (mapO g l) (mapO g l'):=h▸okz_map
theorem pairN_h (c:Nat) (g g2:Nat) (L:List (List Rg)) (a b:Int) (ha:lkI [] a=none) (hbn:lkI [] b=none) (hab:b≠a):HFun Try.prog 44 c [.pt 9101 g 0 0,intV a,intV b] [(9101,rtO g (.os 9102 g2 0 L.length) (.imm (.map none))),(9102,mpsO g2 L)] (RetP (fun (_:Nat) _=>True) (fun _=>.tup 0 fun _=>default) (fun gm=>[(9101,rtO g (.os 9102 g2 0 L.length) (.mp 9103 gm)),(9102,mpsO g2 L),(9103,mirO gm (mirS [] a b))])):=by
 have hpr:encL intK (mp2 [] a b)=encL intK (mirE (mirS [] a b)):=by rw [mp2_eq ha hbn hab]
 refine hfun_of Try.func44 rfl kr _ _ _ _ rfl 31 rfl rfl (fun X ok hX=>?_)
 refine hw_seq fun Nh1 h1=>srg fun N h2=>sm ?_
 first
 | refine hq_ 7 (hop_nilcheck_pt rfl) rfl rfl pre0 rfl rfl ?_
 | refine hq_ 7 (hop_nilcheck_fp rfl) rfl rfl pre0 rfl rfl ?_
 first
 | refine hq_ 8 (hop_fa fd_44_1 rfl) rfl rfl pre0 rfl rfl ?_
 | refine hq_ 8 (hop_fa_fp fd_44_1 rfl (by first | exact Nat.le_of_ble_eq_true rfl | omega | (dsimp only;omega) | (simp <;> omega))) rfl rfl pre0 rfl rfl ?_
 first
 | refine hq_ 9 (hol_load ty_42 rfl (by first | exact Nat.le_of_ble_eq_true rfl | omega | (dsimp only;omega) | (simp <;> omega)) (by first | exact Nat.le_of_ble_eq_true rfl | omega | (dsimp only;omega) | (simp <;> omega)) (fun h=>(by first | rfl | cases h))) rfl rfl (pre1 rfl) rfl rfl ?_
 | refine hq_ 9 (hop_load_fp ty_42 rfl (by first | exact Nat.le_of_ble_eq_true rfl | omega | (dsimp only;omega) | (simp <;> omega)) (fun h=>(by first | rfl | cases h))) rfl rfl pre0 rfl rfl ?_
 refine s0 (hop_map_nil_eq kr rfl rfl) ?_
 refine snl h2 ?_
 refine wc (fun hc0=>?_) (fun hc0=>?_)
 ·have hr0:=hc0;(try simp only [hcs,Int.reduceToNat] at hc0)
  refine hw_region<|sm ?_
  refine hm_1 12 (hop_makeMap (id:=9103)) rfl rfl pre0 rfl rfl (c':=c+1) rfl ?_
  first
  | refine hq_ 13 (hop_nilcheck_pt rfl) rfl rfl pre0 rfl rfl ?_
  | refine hq_ 13 (hop_nilcheck_fp rfl) rfl rfl pre0 rfl rfl ?_
  first
  | refine hq_ 14 (hop_fa fd_44_1 rfl) rfl rfl pre0 rfl rfl ?_
  | refine hq_ 14 (hop_fa_fp fd_44_1 rfl (by first | exact Nat.le_of_ble_eq_true rfl | omega | (dsimp only;omega) | (simp <;> omega))) rfl rfl pre0 rfl rfl ?_
  first
  | refine hm_s1 (hol_storeW ty_42 rfl rfl rfl rfl) rfl rfl (pre1 rfl) (c':=c+2) rfl ?_
  | refine hm_s1 (hol_store ty_42 rfl rfl rfl rfl (by first | exact Nat.le_of_ble_eq_true rfl | omega | (dsimp only;omega) | (simp <;> omega)) (by first | exact Nat.le_of_ble_eq_true rfl | omega | (dsimp only;omega) | (simp <;> omega)) (by first | exact Nat.le_of_ble_eq_true rfl | omega | (dsimp only;omega) | (simp <;> omega))) rfl rfl (pre1 rfl) (c':=c+2) rfl ?_
  refine snl h1<|hd_start ?_
  refine dm 1 ?_
  first
  | refine hd_q 16 (hop_nilcheck_pt rfl) rfl rfl pre0 rfl rfl (k':=2) rfl ?_
  | refine hd_q 16 (hop_nilcheck_fp rfl) rfl rfl pre0 rfl rfl (k':=2) rfl ?_
  first
  | refine hd_q 17 (hop_fa fd_44_1 rfl) rfl rfl pre0 rfl rfl (k':=3) rfl ?_
  | refine hd_q 17 (hop_fa_fp fd_44_1 rfl (by first | exact Nat.le_of_ble_eq_true rfl | omega | (dsimp only;omega) | (simp <;> omega))) rfl rfl pre0 rfl rfl (k':=3) rfl ?_
  first
  | refine hd_q 18 (hol_load ty_42 rfl (by first | exact Nat.le_of_ble_eq_true rfl | omega | (dsimp only;omega) | (simp <;> omega)) (by first | exact Nat.le_of_ble_eq_true rfl | omega | (dsimp only;omega) | (simp <;> omega)) (fun h=>(by first | rfl | cases h))) rfl rfl (pre1 rfl) rfl rfl (k':=4) rfl ?_
  | refine hd_q 18 (hop_load_fp ty_42 rfl (by first | exact Nat.le_of_ble_eq_true rfl | omega | (dsimp only;omega) | (simp <;> omega)) (fun h=>(by first | rfl | cases h))) rfl rfl pre0 rfl rfl (k':=4) rfl ?_
  refine dm 5 ?_
  refine dm 6 ?_
  first
  | refine hd_q 21 (hop_nilcheck_pt rfl) rfl rfl pre0 rfl rfl (k':=7) rfl ?_
  | refine hd_q 21 (hop_nilcheck_fp rfl) rfl rfl pre0 rfl rfl (k':=7) rfl ?_
  first
  | refine hd_q 22 (hop_fa fd_44_1 rfl) rfl rfl pre0 rfl rfl (k':=8) rfl ?_
  | refine hd_q 22 (hop_fa_fp fd_44_1 rfl (by first | exact Nat.le_of_ble_eq_true rfl | omega | (dsimp only;omega) | (simp <;> omega))) rfl rfl pre0 rfl rfl (k':=8) rfl ?_
  first
  | refine hd_q 23 (hol_load ty_42 rfl (by first | exact Nat.le_of_ble_eq_true rfl | omega | (dsimp only;omega) | (simp <;> omega)) (by first | exact Nat.le_of_ble_eq_true rfl | omega | (dsimp only;omega) | (simp <;> omega)) (fun h=>(by first | rfl | cases h))) rfl rfl (pre1 rfl) rfl rfl (k':=9) rfl ?_
  | refine hd_q 23 (hop_load_fp ty_42 rfl (by first | exact Nat.le_of_ble_eq_true rfl | omega | (dsimp only;omega) | (simp <;> omega)) (fun h=>(by first | rfl | cases h))) rfl rfl pre0 rfl rfl (k':=9) rfl ?_
  refine dm 10 ?_
  refine dm 11 ?_
  refine dm 12 ?_
  refine hd_1 27 (hop_mapEntry keyMir (l:=mirE []) (a:=a) rfl rfl (IsKey.imm _)) rfl rfl (pre1 rfl) rfl rfl (k':=13) rfl ?_
  refine d0 14 hex ?_
  refine hd_s1 (hop_entryStore (enc:=intK) (l:=ment (mirE []) a zI) (i:=(mslot (mirE []) a zI).1) (v:=intK b) rfl rfl (mslot_lt _ _ _) rfl) rfl rfl (pre1 rfl) (k':=15) rfl ?_
  refine hd_1 29 (hop_mapEntry keyMir (l:=mp1 [] a b) (a:=b) rfl rfl (IsKey.imm _)) rfl rfl (pre1 rfl) rfl rfl (k':=16) rfl ?_
  refine d0 17 hex ?_
  refine hd_s1 (hop_entryStore (enc:=intK) (l:=ment (mp1 [] a b) b zI) (i:=(mslot (mp1 [] a b) b zI).1) (v:=intK a) rfl rfl (mslot_lt _ _ _) rfl) rfl rfl (pre1 rfl) (k':=18) rfl ?_
  refine hd_nil kr kr (c':=c+20) rfl ?_
  refine hq_fall ?_
  refine hf_retR0 ok hX RetS.one rfl  [] rfl pre0 (c) (trivial) (by rfl) (by rfl) (kza) ?_
  exact ⟨⟨_,rfl,(okz_rtM rfl rfl rfl rfl rfl rfl rfl)⟩,⟨⟨_,rfl,okz_mps⟩,⟨⟨_,rfl,(okz_mapE hpr)⟩,trivial⟩⟩⟩
 have hr0:=hc0;(try simp only [hcs,Int.reduceToNat] at hc0)
 exfalso;simp at hr0
theorem mirrN_h (c:Nat) (g g2:Nat) (L:List (List Rg)) (hL:L.length < 5000) (m:List Rg) (hm:rightM m=true) (f:Int) (hf:0≤f∧f < L.length) (ha:lkI [] f=none) (hbn:lkI [] (L.length:Int)=none):HFun Try.prog 20 c [.pt 9101 g 0 0,rgsV m,intV f] [(9101,rtO g (.os 9102 g2 0 L.length) (.imm (.map none))),(9102,mpsO g2 L)] (RetP (fun (_:Nat×Nat) _=>True) (fun _=>intV 0) (fun p=>[(9101,rtO g (.os 9102 p.1 0 (L++[m]).length) (.mp 9103 p.2)),(9102,mpsO p.1 (L++[m])),(9103,mirO p.2 (mirS [] f L.length))])):=by
 refine hfun_of Try.func20 rfl kr _ _ _ _ rfl 56 rfl rfl (fun X ok hX=>?_)
 refine srg fun N h1=>sa<|snl h1<|hw_seq fun Nh2 h2=>hw_block<|srg fun N h3=>sm ?_
 first
 | refine hq_ 11 (hop_eql_ptn (by kernel_rfl) rfl rfl) rfl rfl pre0 rfl rfl ?_
 | refine hq_ 11 (hop_eql_fpn (by kernel_rfl) rfl rfl) rfl rfl pre0 rfl rfl ?_
 | refine hq_ 11 (hop_eql_nnp (by kernel_rfl) rfl rfl) rfl rfl pre0 rfl rfl ?_
 | refine hq_ 11 (hop_eql_fp rfl rfl rfl) rfl rfl pre0 rfl rfl ?_
 | refine hq_ 11 (hop_eql_pn rfl rfl rfl) rfl rfl pre0 rfl rfl ?_
 refine sa<|snl h3 ?_
 refine wc (fun hc0=>?_) (fun hc0=>?_)
 ·have hr0:=hc0;(try simp only [hcs,Int.reduceToNat] at hc0)
  exfalso;simp at hr0
 have hr0:=hc0;(try simp only [hcs,Int.reduceToNat] at hc0)
 refine srg fun N h4=>sm ?_
 refine s0 (hop_call0 (xs:=[_]) (right_h m) ⟨rfl,trivial⟩ ⟨fe,trivial⟩) ?_
 refine s0 (hop_not rfl) ?_
 refine sa<|snl h4 ?_
 refine wc (fun hc1=>?_) (fun hc1=>?_)
 ·have hr1:=hc1;(try simp only [hcs,Int.reduceToNat] at hc1)
  exfalso;rw [hm] at hr1;simp at hr1
 have hr1:=hc1;(try simp only [hcs,Int.reduceToNat] at hc1)
 refine srg fun N h5=>sm ?_
 first
 | refine hq_ 18 (hop_nilcheck_pt rfl) rfl rfl pre0 rfl rfl ?_
 | refine hq_ 18 (hop_nilcheck_fp rfl) rfl rfl pre0 rfl rfl ?_
 first
 | refine hq_ 19 (hop_fa fd_44_0 rfl) rfl rfl pre0 rfl rfl ?_
 | refine hq_ 19 (hop_fa_fp fd_44_0 rfl (by first | exact Nat.le_of_ble_eq_true rfl | omega | (dsimp only;omega) | (simp <;> omega))) rfl rfl pre0 rfl rfl ?_
 first
 | refine hq_ 20 (hol_load ty_41 rfl (by first | exact Nat.le_of_ble_eq_true rfl | omega | (dsimp only;omega) | (simp <;> omega)) (by first | exact Nat.le_of_ble_eq_true rfl | omega | (dsimp only;omega) | (simp <;> omega)) (fun h=>(by first | rfl | cases h))) rfl rfl (pre1 rfl) rfl rfl ?_
 | refine hq_ 20 (hop_load_fp ty_41 rfl (by first | exact Nat.le_of_ble_eq_true rfl | omega | (dsimp only;omega) | (simp <;> omega)) (fun h=>(by first | rfl | cases h))) rfl rfl pre0 rfl rfl ?_
 first
 | refine hq_ 21 (hop_len_sl (T:=41) rfl (elOf_spec el_41).1 rfl) rfl rfl pre0 rfl rfl ?_
 | refine hq_ 21 (hop_len_os (T:=41) rfl (elOf_spec el_41).1 rfl) rfl rfl pre0 rfl rfl ?_
 | refine hq_ 21 (hop_len_nil (T:=41) rfl (elOf_spec el_41).1 rfl) rfl rfl pre0 rfl rfl ?_
 refine s0 hqi ?_
 refine sa<|snl h5 ?_
 refine wc (fun hc2=>?_) (fun hc2=>?_)
 ·have hr2:=hc2;(try simp only [hcs,Int.reduceToNat] at hc2)
  exfalso;omega
 have hr2:=hc2;(try simp only [hcs,Int.reduceToNat] at hc2)
 refine srg fun N h6=>sm ?_
 refine s0 hli ?_
 refine sm ?_
 first
 | refine stg 26 (fun hb=>hop_move rfl) rfl rfl rfl rfl rfl ?_
 | refine sth 26 (fun hb=>hop_move rfl) rfl rfl rfl rfl rfl ?_
 first
 | refine stg 26 (fun hb=>hop_move rfl) rfl rfl rfl rfl rfl ?_
 | refine sth 26 (fun hb=>hop_move rfl) rfl rfl rfl rfl rfl ?_
 first
 | refine stg 26 (fun hb=>hop_nilcheck_pt rfl) rfl rfl rfl rfl rfl ?_
 | refine sth 26 (fun hb=>hop_nilcheck_pt rfl) rfl rfl rfl rfl rfl ?_
 | refine stg 26 (fun hb=>hop_nilcheck_fp rfl) rfl rfl rfl rfl rfl ?_
 | refine sth 26 (fun hb=>hop_nilcheck_fp rfl) rfl rfl rfl rfl rfl ?_
 first
 | refine stg 26 (fun hb=>hop_fa fd_44_0 rfl) rfl rfl rfl rfl rfl ?_
 | refine sth 26 (fun hb=>hop_fa fd_44_0 rfl) rfl rfl rfl rfl rfl ?_
 | refine stg 26 (fun hb=>hop_fa_fp fd_44_0 rfl (by first | exact Nat.le_of_ble_eq_true rfl | (simp at hb;first | omega | (dsimp only;omega) | (simp <;> omega)) | omega | (dsimp only;omega))) rfl rfl rfl rfl rfl ?_
 | refine sth 26 (fun hb=>hop_fa_fp fd_44_0 rfl (by first | exact Nat.le_of_ble_eq_true rfl | (simp at hb;first | omega | (dsimp only;omega) | (simp <;> omega)) | omega | (dsimp only;omega))) rfl rfl rfl rfl rfl ?_
 first
 | refine hq_g 31 2 26 false _ (fun hb=>hol_load ty_41 rfl (by first | exact Nat.le_of_ble_eq_true rfl | (simp at hb;first | omega | (dsimp only;omega) | (simp <;> omega)) | omega | (dsimp only;omega)) (by first | exact Nat.le_of_ble_eq_true rfl | (simp at hb;first | omega | (dsimp only;omega) | (simp <;> omega)) | omega | (dsimp only;omega)) (fun h=>(by first | rfl | cases h))) rfl rfl rfl rfl (pre1 rfl) rfl rfl rfl ?_
 | refine hq_g2 31 2 26 _ _ false _ (fun hb=>hol_load ty_41 rfl (by first | exact Nat.le_of_ble_eq_true rfl | (simp at hb;first | omega | (dsimp only;omega) | (simp <;> omega)) | omega | (dsimp only;omega)) (by first | exact Nat.le_of_ble_eq_true rfl | (simp at hb;first | omega | (dsimp only;omega) | (simp <;> omega)) | omega | (dsimp only;omega)) (fun h=>(by first | rfl | cases h))) rfl rfl rfl rfl (pre1 rfl) rfl rfl rfl ?_
 | refine stg 26 (fun hb=>hop_load_fp ty_41 rfl (by first | exact Nat.le_of_ble_eq_true rfl | (simp at hb;first | omega | (dsimp only;omega) | (simp <;> omega)) | omega | (dsimp only;omega)) (fun h=>(by first | rfl | cases h))) rfl rfl rfl rfl rfl ?_
 | refine sth 26 (fun hb=>hop_load_fp ty_41 rfl (by first | exact Nat.le_of_ble_eq_true rfl | (simp at hb;first | omega | (dsimp only;omega) | (simp <;> omega)) | omega | (dsimp only;omega)) (fun h=>(by first | rfl | cases h))) rfl rfl rfl rfl rfl ?_
 first
 | refine stg 26 (fun hb=>hop_len_sl (T:=41) rfl (elOf_spec el_41).1 rfl) rfl rfl rfl rfl rfl ?_
 | refine sth 26 (fun hb=>hop_len_sl (T:=41) rfl (elOf_spec el_41).1 rfl) rfl rfl rfl rfl rfl ?_
 | refine stg 26 (fun hb=>hop_len_os (T:=41) rfl (elOf_spec el_41).1 rfl) rfl rfl rfl rfl rfl ?_
 | refine sth 26 (fun hb=>hop_len_os (T:=41) rfl (elOf_spec el_41).1 rfl) rfl rfl rfl rfl rfl ?_
 | refine stg 26 (fun hb=>hop_len_nil (T:=41) rfl (elOf_spec el_41).1 rfl) rfl rfl rfl rfl rfl ?_
 | refine sth 26 (fun hb=>hop_len_nil (T:=41) rfl (elOf_spec el_41).1 rfl) rfl rfl rfl rfl rfl ?_
 first
 | refine stg 26 (fun hb=>hop_geq rfl rfl) rfl rfl rfl rfl rfl ?_
 | refine sth 26 (fun hb=>hop_geq rfl rfl) rfl rfl rfl rfl rfl ?_
 first
 | refine hq_p 34 (hstep_and _ _ rfl rfl rfl) rfl rfl rfl ?_
 | refine hq_p 34 (hstep_or _ _ rfl rfl rfl) rfl rfl rfl ?_
 | refine hq_p 34 (hstep_ite _ _ _ rfl rfl rfl) rfl rfl rfl ?_
 | refine hq_p 34 (hstep_pick _ _ _ _ rfl rfl rfl (fun _=>.refl _) (fun _=>.refl _)) rfl rfl rfl ?_
 refine sa ?_
 refine nu ?_
 refine h6 _ ?_
 refine wc (fun hc3=>?_) (fun hc3=>?_)
 ·have hr3:=hc3;(try simp only [hcs,Int.reduceToNat] at hc3)
  exfalso;simp at hr3;omega
 have hr3:=hc3;(try simp only [hcs,Int.reduceToNat] at hc3)
 refine hw_skip<|hq_block<|h2 _<|hw_seq fun Nh7 h7=>srg fun N h8=>sm ?_
 first
 | refine hq_ 37 (hop_nilcheck_pt rfl) rfl rfl pre0 rfl rfl ?_
 | refine hq_ 37 (hop_nilcheck_fp rfl) rfl rfl pre0 rfl rfl ?_
 first
 | refine hq_ 38 (hop_fa fd_44_1 rfl) rfl rfl pre0 rfl rfl ?_
 | refine hq_ 38 (hop_fa_fp fd_44_1 rfl (by first | exact Nat.le_of_ble_eq_true rfl | omega | (dsimp only;omega) | (simp <;> omega))) rfl rfl pre0 rfl rfl ?_
 first
 | refine hq_ 39 (hol_load ty_42 rfl (by first | exact Nat.le_of_ble_eq_true rfl | omega | (dsimp only;omega) | (simp <;> omega)) (by first | exact Nat.le_of_ble_eq_true rfl | omega | (dsimp only;omega) | (simp <;> omega)) (fun h=>(by first | rfl | cases h))) rfl rfl (pre1 rfl) rfl rfl ?_
 | refine hq_ 39 (hop_load_fp ty_42 rfl (by first | exact Nat.le_of_ble_eq_true rfl | omega | (dsimp only;omega) | (simp <;> omega)) (fun h=>(by first | rfl | cases h))) rfl rfl pre0 rfl rfl ?_
 refine sm ?_
 refine s0 (HOp.val (v':=optI (lkI [] f)) (hop_lookup_nil keyMir rfl rfl (IsKey.imm _)) (lkV_none _)) ?_
 refine sm ?_
 refine s0 hex ?_
 refine s0 hex ?_
 refine sa<|sa<|snl h8<|srg fun N h9=>sm<|snl h9 ?_
 refine wc (fun hc4=>?_) (fun hc4=>?_)
 ·have hr4:=hc4;(try simp only [hcs,Int.reduceToNat] at hc4)
  exfalso;rw [ha] at hr4;cases hr4
 have hr4:=hc4;(try simp only [hcs,Int.reduceToNat] at hc4)
 refine hw_skip<|h7 _<|srg fun N h10=>sm<|sm<|sm ?_
 first
 | refine hq_ 48 (hop_nilcheck_pt rfl) rfl rfl pre0 rfl rfl ?_
 | refine hq_ 48 (hop_nilcheck_fp rfl) rfl rfl pre0 rfl rfl ?_
 first
 | refine hq_ 49 (hop_fa fd_44_0 rfl) rfl rfl pre0 rfl rfl ?_
 | refine hq_ 49 (hop_fa_fp fd_44_0 rfl (by first | exact Nat.le_of_ble_eq_true rfl | omega | (dsimp only;omega) | (simp <;> omega))) rfl rfl pre0 rfl rfl ?_
 first
 | refine hq_ 50 (hol_load ty_41 rfl (by first | exact Nat.le_of_ble_eq_true rfl | omega | (dsimp only;omega) | (simp <;> omega)) (by first | exact Nat.le_of_ble_eq_true rfl | omega | (dsimp only;omega) | (simp <;> omega)) (fun h=>(by first | rfl | cases h))) rfl rfl (pre1 rfl) rfl rfl ?_
 | refine hq_ 50 (hop_load_fp ty_41 rfl (by first | exact Nat.le_of_ble_eq_true rfl | omega | (dsimp only;omega) | (simp <;> omega)) (fun h=>(by first | rfl | cases h))) rfl rfl pre0 rfl rfl ?_
 first
 | refine hq_ 51 (hop_len_sl (T:=41) rfl (elOf_spec el_41).1 rfl) rfl rfl pre0 rfl rfl ?_
 | refine hq_ 51 (hop_len_os (T:=41) rfl (elOf_spec el_41).1 rfl) rfl rfl pre0 rfl rfl ?_
 | refine hq_ 51 (hop_len_nil (T:=41) rfl (elOf_spec el_41).1 rfl) rfl rfl pre0 rfl rfl ?_
 refine hf_callR 52 (xs:=[_,_,_]) (pre:=[(9101,_),(9102,_)]) (pairN_h _ g g2 L f (L.length:Int) ha hbn om) ⟨rfl,⟨rfl,⟨rfl,trivial⟩⟩⟩ (preC rfl (preC rfl pre0)) rfl rfl (fun gm c1 hx1=>?_)
 (try dsimp only)
 refine snl h10<|srg fun N h11=>sm<|sm ?_
 refine hf_callR 55 (xs:=[_,_]) (pre:=[(9101,_),(9102,_),(9103,_)]) (addM_h _ g g2 gm L (mirS [] f L.length) hL m hm) ⟨rfl,⟨rfl,trivial⟩⟩ (preC rfl (preC rfl (preC rfl pre0))) rfl rfl (fun g5 c2 hx2=>?_)
 (try dsimp only)
 refine sa<|snl h11<|hw_ret ?_
 refine hf_retR1 ok hX RetS.one rfl (rval_tmp rfl) [] rfl pre0 ((g5,gm)) (trivial) (by rfl) (by rfl) (kza) ?_
 exact ⟨⟨_,rfl,(okz_rtM rfl rfl rfl rfl rfl rfl rfl)⟩,⟨⟨_,rfl,okz_mps⟩,⟨⟨_,rfl,okz_map⟩,trivial⟩⟩⟩
theorem pairM_h (c:Nat) (g g2 gm:Nat) (L:List (List Rg)) (mir:List (Int×Int)) (a b:Int) (ha:lkI mir a=none) (hbn:lkI mir b=none) (hab:b≠a):HFun Try.prog 44 c [.pt 9101 g 0 0,intV a,intV b] [(9101,rtO g (.os 9102 g2 0 L.length) (.mp 9103 gm)),(9102,mpsO g2 L),(9103,mirO gm mir)] (RetP (fun (_:Unit) _=>True) (fun _=>.tup 0 fun _=>default) (fun _=>[(9101,rtO g (.os 9102 g2 0 L.length) (.mp 9103 gm)),(9102,mpsO g2 L),(9103,mirO gm (mirS mir a b))])):=by
 have hpr:encL intK (mp2 mir a b)=encL intK (mirE (mirS mir a b)):=by rw [mp2_eq ha hbn hab]
 refine hfun_of Try.func44 rfl kr _ _ _ _ rfl 31 rfl rfl (fun X ok hX=>?_)
 refine hw_seq fun Nh1 h1=>srg fun N h2=>sm ?_
 first
 | refine hq_ 7 (hop_nilcheck_pt rfl) rfl rfl pre0 rfl rfl ?_
 | refine hq_ 7 (hop_nilcheck_fp rfl) rfl rfl pre0 rfl rfl ?_
 first
 | refine hq_ 8 (hop_fa fd_44_1 rfl) rfl rfl pre0 rfl rfl ?_
 | refine hq_ 8 (hop_fa_fp fd_44_1 rfl (by first | exact Nat.le_of_ble_eq_true rfl | omega | (dsimp only;omega) | (simp <;> omega))) rfl rfl pre0 rfl rfl ?_
 first
 | refine hq_ 9 (hol_load ty_42 rfl (by first | exact Nat.le_of_ble_eq_true rfl | omega | (dsimp only;omega) | (simp <;> omega)) (by first | exact Nat.le_of_ble_eq_true rfl | omega | (dsimp only;omega) | (simp <;> omega)) (fun h=>(by first | rfl | cases h))) rfl rfl (pre1 rfl) rfl rfl ?_
 | refine hq_ 9 (hop_load_fp ty_42 rfl (by first | exact Nat.le_of_ble_eq_true rfl | omega | (dsimp only;omega) | (simp <;> omega)) (fun h=>(by first | rfl | cases h))) rfl rfl pre0 rfl rfl ?_
 refine s0 (hop_map_mp_eq kr rfl rfl) ?_
 refine snl h2 ?_
 refine wc (fun hc0=>?_) (fun hc0=>?_)
 ·have hr0:=hc0;(try simp only [hcs,Int.reduceToNat] at hc0)
  exfalso;simp at hr0
 have hr0:=hc0;(try simp only [hcs,Int.reduceToNat] at hc0)
 refine hw_skip<|h1 _<|hd_start ?_
 refine dm 1 ?_
 first
 | refine hd_q 16 (hop_nilcheck_pt rfl) rfl rfl pre0 rfl rfl (k':=2) rfl ?_
 | refine hd_q 16 (hop_nilcheck_fp rfl) rfl rfl pre0 rfl rfl (k':=2) rfl ?_
 first
 | refine hd_q 17 (hop_fa fd_44_1 rfl) rfl rfl pre0 rfl rfl (k':=3) rfl ?_
 | refine hd_q 17 (hop_fa_fp fd_44_1 rfl (by first | exact Nat.le_of_ble_eq_true rfl | omega | (dsimp only;omega) | (simp <;> omega))) rfl rfl pre0 rfl rfl (k':=3) rfl ?_
 first
 | refine hd_q 18 (hol_load ty_42 rfl (by first | exact Nat.le_of_ble_eq_true rfl | omega | (dsimp only;omega) | (simp <;> omega)) (by first | exact Nat.le_of_ble_eq_true rfl | omega | (dsimp only;omega) | (simp <;> omega)) (fun h=>(by first | rfl | cases h))) rfl rfl (pre1 rfl) rfl rfl (k':=4) rfl ?_
 | refine hd_q 18 (hop_load_fp ty_42 rfl (by first | exact Nat.le_of_ble_eq_true rfl | omega | (dsimp only;omega) | (simp <;> omega)) (fun h=>(by first | rfl | cases h))) rfl rfl pre0 rfl rfl (k':=4) rfl ?_
 refine dm 5 ?_
 refine dm 6 ?_
 first
 | refine hd_q 21 (hop_nilcheck_pt rfl) rfl rfl pre0 rfl rfl (k':=7) rfl ?_
 | refine hd_q 21 (hop_nilcheck_fp rfl) rfl rfl pre0 rfl rfl (k':=7) rfl ?_
 first
 | refine hd_q 22 (hop_fa fd_44_1 rfl) rfl rfl pre0 rfl rfl (k':=8) rfl ?_
 | refine hd_q 22 (hop_fa_fp fd_44_1 rfl (by first | exact Nat.le_of_ble_eq_true rfl | omega | (dsimp only;omega) | (simp <;> omega))) rfl rfl pre0 rfl rfl (k':=8) rfl ?_
 first
 | refine hd_q 23 (hol_load ty_42 rfl (by first | exact Nat.le_of_ble_eq_true rfl | omega | (dsimp only;omega) | (simp <;> omega)) (by first | exact Nat.le_of_ble_eq_true rfl | omega | (dsimp only;omega) | (simp <;> omega)) (fun h=>(by first | rfl | cases h))) rfl rfl (pre1 rfl) rfl rfl (k':=9) rfl ?_
 | refine hd_q 23 (hop_load_fp ty_42 rfl (by first | exact Nat.le_of_ble_eq_true rfl | omega | (dsimp only;omega) | (simp <;> omega)) (fun h=>(by first | rfl | cases h))) rfl rfl pre0 rfl rfl (k':=9) rfl ?_
 refine dm 10 ?_
 refine dm 11 ?_
 refine dm 12 ?_
 refine hd_1 27 (hop_mapEntry keyMir (l:=mirE mir) (a:=a) rfl rfl (IsKey.imm _)) rfl rfl (pre1 rfl) rfl rfl (k':=13) rfl ?_
 refine d0 14 hex ?_
 refine hd_s1 (hop_entryStore (enc:=intK) (l:=ment (mirE mir) a zI) (i:=(mslot (mirE mir) a zI).1) (v:=intK b) rfl rfl (mslot_lt _ _ _) rfl) rfl rfl (pre1 rfl) (k':=15) rfl ?_
 refine hd_1 29 (hop_mapEntry keyMir (l:=mp1 mir a b) (a:=b) rfl rfl (IsKey.imm _)) rfl rfl (pre1 rfl) rfl rfl (k':=16) rfl ?_
 refine d0 17 hex ?_
 refine hd_s1 (hop_entryStore (enc:=intK) (l:=ment (mp1 mir a b) b zI) (i:=(mslot (mp1 mir a b) b zI).1) (v:=intK a) rfl rfl (mslot_lt _ _ _) rfl) rfl rfl (pre1 rfl) (k':=18) rfl ?_
 refine hd_nil kr kr (c':=c+18) rfl ?_
 refine hq_fall ?_
 refine hf_retR0 ok hX RetS.one rfl  [] rfl pre0 (()) (trivial) (by rfl) (by rfl) (kza) ?_
 exact ⟨⟨_,rfl,(okz_rtM rfl rfl rfl rfl rfl rfl rfl)⟩,⟨⟨_,rfl,okz_mps⟩,⟨⟨_,rfl,(okz_mapE hpr)⟩,trivial⟩⟩⟩
theorem mirrM_h (c:Nat) (g g2 gm:Nat) (L:List (List Rg)) (mir:List (Int×Int)) (hL:L.length < 5000) (m:List Rg) (hm:rightM m=true) (f:Int) (hf:0≤f∧f < L.length) (ha:lkI mir f=none) (hbn:lkI mir (L.length:Int)=none):HFun Try.prog 20 c [.pt 9101 g 0 0,rgsV m,intV f] [(9101,rtO g (.os 9102 g2 0 L.length) (.mp 9103 gm)),(9102,mpsO g2 L),(9103,mirO gm mir)] (RetP (fun (_:Nat) _=>True) (fun _=>intV 0) (fun p=>[(9101,rtO g (.os 9102 p 0 (L++[m]).length) (.mp 9103 gm)),(9102,mpsO p (L++[m])),(9103,mirO gm (mirS mir f L.length))])):=by
 refine hfun_of Try.func20 rfl kr _ _ _ _ rfl 56 rfl rfl (fun X ok hX=>?_)
 refine srg fun N h1=>sa<|snl h1<|hw_seq fun Nh2 h2=>hw_block<|srg fun N h3=>sm ?_
 first
 | refine hq_ 11 (hop_eql_ptn (by kernel_rfl) rfl rfl) rfl rfl pre0 rfl rfl ?_
 | refine hq_ 11 (hop_eql_fpn (by kernel_rfl) rfl rfl) rfl rfl pre0 rfl rfl ?_
 | refine hq_ 11 (hop_eql_nnp (by kernel_rfl) rfl rfl) rfl rfl pre0 rfl rfl ?_
 | refine hq_ 11 (hop_eql_fp rfl rfl rfl) rfl rfl pre0 rfl rfl ?_
 | refine hq_ 11 (hop_eql_pn rfl rfl rfl) rfl rfl pre0 rfl rfl ?_
 refine sa<|snl h3 ?_
 refine wc (fun hc0=>?_) (fun hc0=>?_)
 ·have hr0:=hc0;(try simp only [hcs,Int.reduceToNat] at hc0)
  exfalso;simp at hr0
 have hr0:=hc0;(try simp only [hcs,Int.reduceToNat] at hc0)
 refine srg fun N h4=>sm ?_
 refine s0 (hop_call0 (xs:=[_]) (right_h m) ⟨rfl,trivial⟩ ⟨fe,trivial⟩) ?_
 refine s0 (hop_not rfl) ?_
 refine sa<|snl h4 ?_
 refine wc (fun hc1=>?_) (fun hc1=>?_)
 ·have hr1:=hc1;(try simp only [hcs,Int.reduceToNat] at hc1)
  exfalso;rw [hm] at hr1;simp at hr1
 have hr1:=hc1;(try simp only [hcs,Int.reduceToNat] at hc1)
 refine srg fun N h5=>sm ?_
 first
 | refine hq_ 18 (hop_nilcheck_pt rfl) rfl rfl pre0 rfl rfl ?_
 | refine hq_ 18 (hop_nilcheck_fp rfl) rfl rfl pre0 rfl rfl ?_
 first
 | refine hq_ 19 (hop_fa fd_44_0 rfl) rfl rfl pre0 rfl rfl ?_
 | refine hq_ 19 (hop_fa_fp fd_44_0 rfl (by first | exact Nat.le_of_ble_eq_true rfl | omega | (dsimp only;omega) | (simp <;> omega))) rfl rfl pre0 rfl rfl ?_
 first
 | refine hq_ 20 (hol_load ty_41 rfl (by first | exact Nat.le_of_ble_eq_true rfl | omega | (dsimp only;omega) | (simp <;> omega)) (by first | exact Nat.le_of_ble_eq_true rfl | omega | (dsimp only;omega) | (simp <;> omega)) (fun h=>(by first | rfl | cases h))) rfl rfl (pre1 rfl) rfl rfl ?_
 | refine hq_ 20 (hop_load_fp ty_41 rfl (by first | exact Nat.le_of_ble_eq_true rfl | omega | (dsimp only;omega) | (simp <;> omega)) (fun h=>(by first | rfl | cases h))) rfl rfl pre0 rfl rfl ?_
 first
 | refine hq_ 21 (hop_len_sl (T:=41) rfl (elOf_spec el_41).1 rfl) rfl rfl pre0 rfl rfl ?_
 | refine hq_ 21 (hop_len_os (T:=41) rfl (elOf_spec el_41).1 rfl) rfl rfl pre0 rfl rfl ?_
 | refine hq_ 21 (hop_len_nil (T:=41) rfl (elOf_spec el_41).1 rfl) rfl rfl pre0 rfl rfl ?_
 refine s0 hqi ?_
 refine sa<|snl h5 ?_
 refine wc (fun hc2=>?_) (fun hc2=>?_)
 ·have hr2:=hc2;(try simp only [hcs,Int.reduceToNat] at hc2)
  exfalso;omega
 have hr2:=hc2;(try simp only [hcs,Int.reduceToNat] at hc2)
 refine srg fun N h6=>sm ?_
 refine s0 hli ?_
 refine sm ?_
 first
 | refine stg 26 (fun hb=>hop_move rfl) rfl rfl rfl rfl rfl ?_
 | refine sth 26 (fun hb=>hop_move rfl) rfl rfl rfl rfl rfl ?_
 first
 | refine stg 26 (fun hb=>hop_move rfl) rfl rfl rfl rfl rfl ?_
 | refine sth 26 (fun hb=>hop_move rfl) rfl rfl rfl rfl rfl ?_
 first
 | refine stg 26 (fun hb=>hop_nilcheck_pt rfl) rfl rfl rfl rfl rfl ?_
 | refine sth 26 (fun hb=>hop_nilcheck_pt rfl) rfl rfl rfl rfl rfl ?_
 | refine stg 26 (fun hb=>hop_nilcheck_fp rfl) rfl rfl rfl rfl rfl ?_
 | refine sth 26 (fun hb=>hop_nilcheck_fp rfl) rfl rfl rfl rfl rfl ?_
 first
 | refine stg 26 (fun hb=>hop_fa fd_44_0 rfl) rfl rfl rfl rfl rfl ?_
 | refine sth 26 (fun hb=>hop_fa fd_44_0 rfl) rfl rfl rfl rfl rfl ?_
 | refine stg 26 (fun hb=>hop_fa_fp fd_44_0 rfl (by first | exact Nat.le_of_ble_eq_true rfl | (simp at hb;first | omega | (dsimp only;omega) | (simp <;> omega)) | omega | (dsimp only;omega))) rfl rfl rfl rfl rfl ?_
 | refine sth 26 (fun hb=>hop_fa_fp fd_44_0 rfl (by first | exact Nat.le_of_ble_eq_true rfl | (simp at hb;first | omega | (dsimp only;omega) | (simp <;> omega)) | omega | (dsimp only;omega))) rfl rfl rfl rfl rfl ?_
 first
 | refine hq_g 31 2 26 false _ (fun hb=>hol_load ty_41 rfl (by first | exact Nat.le_of_ble_eq_true rfl | (simp at hb;first | omega | (dsimp only;omega) | (simp <;> omega)) | omega | (dsimp only;omega)) (by first | exact Nat.le_of_ble_eq_true rfl | (simp at hb;first | omega | (dsimp only;omega) | (simp <;> omega)) | omega | (dsimp only;omega)) (fun h=>(by first | rfl | cases h))) rfl rfl rfl rfl (pre1 rfl) rfl rfl rfl ?_
 | refine hq_g2 31 2 26 _ _ false _ (fun hb=>hol_load ty_41 rfl (by first | exact Nat.le_of_ble_eq_true rfl | (simp at hb;first | omega | (dsimp only;omega) | (simp <;> omega)) | omega | (dsimp only;omega)) (by first | exact Nat.le_of_ble_eq_true rfl | (simp at hb;first | omega | (dsimp only;omega) | (simp <;> omega)) | omega | (dsimp only;omega)) (fun h=>(by first | rfl | cases h))) rfl rfl rfl rfl (pre1 rfl) rfl rfl rfl ?_
 | refine stg 26 (fun hb=>hop_load_fp ty_41 rfl (by first | exact Nat.le_of_ble_eq_true rfl | (simp at hb;first | omega | (dsimp only;omega) | (simp <;> omega)) | omega | (dsimp only;omega)) (fun h=>(by first | rfl | cases h))) rfl rfl rfl rfl rfl ?_
 | refine sth 26 (fun hb=>hop_load_fp ty_41 rfl (by first | exact Nat.le_of_ble_eq_true rfl | (simp at hb;first | omega | (dsimp only;omega) | (simp <;> omega)) | omega | (dsimp only;omega)) (fun h=>(by first | rfl | cases h))) rfl rfl rfl rfl rfl ?_
 first
 | refine stg 26 (fun hb=>hop_len_sl (T:=41) rfl (elOf_spec el_41).1 rfl) rfl rfl rfl rfl rfl ?_
 | refine sth 26 (fun hb=>hop_len_sl (T:=41) rfl (elOf_spec el_41).1 rfl) rfl rfl rfl rfl rfl ?_
 | refine stg 26 (fun hb=>hop_len_os (T:=41) rfl (elOf_spec el_41).1 rfl) rfl rfl rfl rfl rfl ?_
 | refine sth 26 (fun hb=>hop_len_os (T:=41) rfl (elOf_spec el_41).1 rfl) rfl rfl rfl rfl rfl ?_
 | refine stg 26 (fun hb=>hop_len_nil (T:=41) rfl (elOf_spec el_41).1 rfl) rfl rfl rfl rfl rfl ?_
 | refine sth 26 (fun hb=>hop_len_nil (T:=41) rfl (elOf_spec el_41).1 rfl) rfl rfl rfl rfl rfl ?_
 first
 | refine stg 26 (fun hb=>hop_geq rfl rfl) rfl rfl rfl rfl rfl ?_
 | refine sth 26 (fun hb=>hop_geq rfl rfl) rfl rfl rfl rfl rfl ?_
 first
 | refine hq_p 34 (hstep_and _ _ rfl rfl rfl) rfl rfl rfl ?_
 | refine hq_p 34 (hstep_or _ _ rfl rfl rfl) rfl rfl rfl ?_
 | refine hq_p 34 (hstep_ite _ _ _ rfl rfl rfl) rfl rfl rfl ?_
 | refine hq_p 34 (hstep_pick _ _ _ _ rfl rfl rfl (fun _=>.refl _) (fun _=>.refl _)) rfl rfl rfl ?_
 refine sa ?_
 refine nu ?_
 refine h6 _ ?_
 refine wc (fun hc3=>?_) (fun hc3=>?_)
 ·have hr3:=hc3;(try simp only [hcs,Int.reduceToNat] at hc3)
  exfalso;simp at hr3;omega
 have hr3:=hc3;(try simp only [hcs,Int.reduceToNat] at hc3)
 refine hw_skip<|hq_block<|h2 _<|hw_seq fun Nh7 h7=>srg fun N h8=>sm ?_
 first
 | refine hq_ 37 (hop_nilcheck_pt rfl) rfl rfl pre0 rfl rfl ?_
 | refine hq_ 37 (hop_nilcheck_fp rfl) rfl rfl pre0 rfl rfl ?_
 first
 | refine hq_ 38 (hop_fa fd_44_1 rfl) rfl rfl pre0 rfl rfl ?_
 | refine hq_ 38 (hop_fa_fp fd_44_1 rfl (by first | exact Nat.le_of_ble_eq_true rfl | omega | (dsimp only;omega) | (simp <;> omega))) rfl rfl pre0 rfl rfl ?_
 first
 | refine hq_ 39 (hol_load ty_42 rfl (by first | exact Nat.le_of_ble_eq_true rfl | omega | (dsimp only;omega) | (simp <;> omega)) (by first | exact Nat.le_of_ble_eq_true rfl | omega | (dsimp only;omega) | (simp <;> omega)) (fun h=>(by first | rfl | cases h))) rfl rfl (pre1 rfl) rfl rfl ?_
 | refine hq_ 39 (hop_load_fp ty_42 rfl (by first | exact Nat.le_of_ble_eq_true rfl | omega | (dsimp only;omega) | (simp <;> omega)) (fun h=>(by first | rfl | cases h))) rfl rfl pre0 rfl rfl ?_
 refine sm ?_
 refine st1 (HOp.val (v':=optI (lkI mir f)) (hop_lookup keyMir (l:=mirE mir) rfl rfl (IsKey.imm _)) (lkV_mir _ _)) rfl rfl rfl ?_
 refine sm ?_
 refine s0 hex ?_
 refine s0 hex ?_
 refine sa<|sa<|snl h8<|srg fun N h9=>sm<|snl h9 ?_
 refine wc (fun hc4=>?_) (fun hc4=>?_)
 ·have hr4:=hc4;(try simp only [hcs,Int.reduceToNat] at hc4)
  exfalso;rw [ha] at hr4;cases hr4
 have hr4:=hc4;(try simp only [hcs,Int.reduceToNat] at hc4)
 refine hw_skip<|h7 _<|srg fun N h10=>sm<|sm<|sm ?_
 first
 | refine hq_ 48 (hop_nilcheck_pt rfl) rfl rfl pre0 rfl rfl ?_
 | refine hq_ 48 (hop_nilcheck_fp rfl) rfl rfl pre0 rfl rfl ?_
 first
 | refine hq_ 49 (hop_fa fd_44_0 rfl) rfl rfl pre0 rfl rfl ?_
 | refine hq_ 49 (hop_fa_fp fd_44_0 rfl (by first | exact Nat.le_of_ble_eq_true rfl | omega | (dsimp only;omega) | (simp <;> omega))) rfl rfl pre0 rfl rfl ?_
 first
 | refine hq_ 50 (hol_load ty_41 rfl (by first | exact Nat.le_of_ble_eq_true rfl | omega | (dsimp only;omega) | (simp <;> omega)) (by first | exact Nat.le_of_ble_eq_true rfl | omega | (dsimp only;omega) | (simp <;> omega)) (fun h=>(by first | rfl | cases h))) rfl rfl (pre1 rfl) rfl rfl ?_
 | refine hq_ 50 (hop_load_fp ty_41 rfl (by first | exact Nat.le_of_ble_eq_true rfl | omega | (dsimp only;omega) | (simp <;> omega)) (fun h=>(by first | rfl | cases h))) rfl rfl pre0 rfl rfl ?_
 first
 | refine hq_ 51 (hop_len_sl (T:=41) rfl (elOf_spec el_41).1 rfl) rfl rfl pre0 rfl rfl ?_
 | refine hq_ 51 (hop_len_os (T:=41) rfl (elOf_spec el_41).1 rfl) rfl rfl pre0 rfl rfl ?_
 | refine hq_ 51 (hop_len_nil (T:=41) rfl (elOf_spec el_41).1 rfl) rfl rfl pre0 rfl rfl ?_
 refine hf_callR 52 (xs:=[_,_,_]) (pre:=[(9101,_),(9102,_),(9103,_)]) (pairM_h _ g g2 gm L mir f (L.length:Int) ha hbn om) ⟨rfl,⟨rfl,⟨rfl,trivial⟩⟩⟩ (preC rfl (preC rfl (preC rfl pre0))) rfl rfl (fun x1 c1 hx1=>?_)
 (try dsimp only)
 refine snl h10<|srg fun N h11=>sm<|sm ?_
 refine hf_callR 55 (xs:=[_,_]) (pre:=[(9101,_),(9102,_),(9103,_)]) (addM_h _ g g2 gm L (mirS mir f L.length) hL m hm) ⟨rfl,⟨rfl,trivial⟩⟩ (preC rfl (preC rfl (preC rfl pre0))) rfl rfl (fun g5 c2 hx2=>?_)
 (try dsimp only)
 refine sa<|snl h11<|hw_ret ?_
 refine hf_retR1 ok hX RetS.one rfl (rval_tmp rfl) [] rfl pre0 (g5) (trivial) (by rfl) (by rfl) (kza) ?_
 exact ⟨⟨_,rfl,(okz_rtM rfl rfl rfl rfl rfl rfl rfl)⟩,⟨⟨_,rfl,okz_mps⟩,⟨⟨_,rfl,okz_map⟩,trivial⟩⟩⟩
set_option linter.unnecessarySimpa false
attribute [local go_sem ↓] run_load_step
attribute [local go_sem] rd_drewN rd_drew aggLoad_ptr aggRes_some Stp.cells_length build_stp
set_option maxRecDepth 100000 in
set_option maxHeartbeats 4000000 in
theorem StepOf1 (x:Stp) (w:World) (hk:x.v.k=1) :
  Calls Try.prog 62 #[.agg x.cells.toArray] w fun e w'=>e=.returned (.iface 129 (.agg x.cells.toArray))∧Below w.heap.size w w':=by
 have r0:rd (w.alloc (.cells x.cells.toArray 26)) ⟨w.heap.size,0,none⟩ 10=some x.cells:=rd_alloc_new w x.cells 26 10 x.cells_length
 have HB0:Hid (Below w.heap.size w (w.alloc (.cells x.cells.toArray 26))):=(Below.refl _ w).alloc (Nat.le_refl _) _
 have c0:(w.alloc (.cells x.cells.toArray 26)).cell? ⟨w.heap.size,0,none⟩=some (.int .i64 1):=by
  have:=(rd_cell r0).2 0 (by omega)
  simpa [Addr.add,Stp.cells,hk] using this
 go_enter Try.func62,Try.ntmps62
 go_wp2
 go_ret
 exact ⟨rfl,HB0.out⟩
set_option maxRecDepth 100000 in
set_option maxHeartbeats 4000000 in
theorem StepOf2 (x:Stp) (w:World) (hk:x.v.k=2) :
  Calls Try.prog 62 #[.agg x.cells.toArray] w fun e w'=>e=.returned (.iface 130 (.agg x.cells.toArray))∧Below w.heap.size w w':=by
 have r0:rd (w.alloc (.cells x.cells.toArray 26)) ⟨w.heap.size,0,none⟩ 10=some x.cells:=rd_alloc_new w x.cells 26 10 x.cells_length
 have HB0:Hid (Below w.heap.size w (w.alloc (.cells x.cells.toArray 26))):=(Below.refl _ w).alloc (Nat.le_refl _) _
 have c0:(w.alloc (.cells x.cells.toArray 26)).cell? ⟨w.heap.size,0,none⟩=some (.int .i64 2):=by
  have:=(rd_cell r0).2 0 (by omega)
  simpa [Addr.add,Stp.cells,hk] using this
 go_enter Try.func62,Try.ntmps62
 go_wp2
 go_ret
 exact ⟨rfl,HB0.out⟩
set_option maxRecDepth 100000 in
set_option maxHeartbeats 4000000 in
theorem StepOf3 (x:Stp) (w:World) (hk:x.v.k=3) :
  Calls Try.prog 62 #[.agg x.cells.toArray] w fun e w'=>e=.returned (.iface 131 (.agg x.cells.toArray))∧Below w.heap.size w w':=by
 have r0:rd (w.alloc (.cells x.cells.toArray 26)) ⟨w.heap.size,0,none⟩ 10=some x.cells:=rd_alloc_new w x.cells 26 10 x.cells_length
 have HB0:Hid (Below w.heap.size w (w.alloc (.cells x.cells.toArray 26))):=(Below.refl _ w).alloc (Nat.le_refl _) _
 have c0:(w.alloc (.cells x.cells.toArray 26)).cell? ⟨w.heap.size,0,none⟩=some (.int .i64 3):=by
  have:=(rd_cell r0).2 0 (by omega)
  simpa [Addr.add,Stp.cells,hk] using this
 go_enter Try.func62,Try.ntmps62
 go_wp2
 go_ret
 exact ⟨rfl,HB0.out⟩
set_option maxRecDepth 100000 in
set_option maxHeartbeats 4000000 in
theorem StepOf4 (x:Stp) (w:World) (hk:x.v.k=4) :
  Calls Try.prog 62 #[.agg x.cells.toArray] w fun e w'=>e=.returned (.iface 131 (.agg x.cells.toArray))∧Below w.heap.size w w':=by
 have r0:rd (w.alloc (.cells x.cells.toArray 26)) ⟨w.heap.size,0,none⟩ 10=some x.cells:=rd_alloc_new w x.cells 26 10 x.cells_length
 have HB0:Hid (Below w.heap.size w (w.alloc (.cells x.cells.toArray 26))):=(Below.refl _ w).alloc (Nat.le_refl _) _
 have c0:(w.alloc (.cells x.cells.toArray 26)).cell? ⟨w.heap.size,0,none⟩=some (.int .i64 4):=by
  have:=(rd_cell r0).2 0 (by omega)
  simpa [Addr.add,Stp.cells,hk] using this
 go_enter Try.func62,Try.ntmps62
 go_wp2
 go_ret
 exact ⟨rfl,HB0.out⟩
set_option maxRecDepth 100000 in
set_option maxHeartbeats 4000000 in
theorem StepOf5 (x:Stp) (w:World) (hk:x.v.k=5) :
  Calls Try.prog 62 #[.agg x.cells.toArray] w fun e w'=>e=.returned (.iface 132 (.agg x.cells.toArray))∧Below w.heap.size w w':=by
 have r0:rd (w.alloc (.cells x.cells.toArray 26)) ⟨w.heap.size,0,none⟩ 10=some x.cells:=rd_alloc_new w x.cells 26 10 x.cells_length
 have HB0:Hid (Below w.heap.size w (w.alloc (.cells x.cells.toArray 26))):=(Below.refl _ w).alloc (Nat.le_refl _) _
 have c0:(w.alloc (.cells x.cells.toArray 26)).cell? ⟨w.heap.size,0,none⟩=some (.int .i64 5):=by
  have:=(rd_cell r0).2 0 (by omega)
  simpa [Addr.add,Stp.cells,hk] using this
 go_enter Try.func62,Try.ntmps62
 go_wp2
 go_ret
 exact ⟨rfl,HB0.out⟩
set_option maxRecDepth 100000 in
set_option maxHeartbeats 4000000 in
theorem StepOf0 (x:Stp) (w:World) (h1:(x.v.k == 1)=false) (h2:(x.v.k == 2)=false) (h3:(x.v.k == 3)=false) (h4:(x.v.k == 4)=false) (h5:(x.v.k == 5)=false) :
  Calls Try.prog 62 #[.agg x.cells.toArray] w fun e w'=>e=.returned (.nilIface)∧Below w.heap.size w w':=by
 have r0:rd (w.alloc (.cells x.cells.toArray 26)) ⟨w.heap.size,0,none⟩ 10=some x.cells:=rd_alloc_new w x.cells 26 10 x.cells_length
 have HB0:Hid (Below w.heap.size w (w.alloc (.cells x.cells.toArray 26))):=(Below.refl _ w).alloc (Nat.le_refl _) _
 have c0:(w.alloc (.cells x.cells.toArray 26)).cell? ⟨w.heap.size,0,none⟩=some (.int .i64 x.v.k):=by
  have:=(rd_cell r0).2 0 (by omega)
  simpa [Addr.add,Stp.cells] using this
 go_enter Try.func62,Try.ntmps62
 go_wp2
 go_ret
 exact ⟨rfl,HB0.out⟩
end Go.Proofs.Ytkcfhciffdnmmaa
namespace Go.Proofs.Ytkcfhciffdnmmaa
set_option linter.unusedSimpArgs false
set_option linter.unusedVariables false
open Go.RowKit
attribute [local go_sem ↓] run_load_tok run_eql_tok run_neq_tok
attribute [local go_sem] rd_drewN rd_drew aggLoad_ptr aggRes_some
set_option maxHeartbeats 400000 in
theorem Same13_any (A1 A2:Option Addr) (n1 n2 c1 c2 B1 B2:Nat) (l1 l2:List Tok) (w:World) (hn1:l1.length=n1) (hn2:l2.length=n2) (h1:Sl w B1 12 Tok.cells A1 l1) (h2:Sl w B2 12 Tok.cells A2 l2) (hb1:n1≤1000000000) (hb2:n2≤1000000000) :
  Calls Try.prog 8 #[.slice A1 n1 c1,.slice A2 n2 c2] w fun e w'=>e=.returned (.bool (decide (l1=l2)))∧∃ n,w'=w.drewN n:=by
 subst hn1;subst hn2
 by_cases hl:l1.length=l2.length
 ·have hne:((l1.length:Int) != (l2.length:Int))=false:=by simp [hl]
  have HL:=Lib.hid hl;clear hl
  go_enter Try.func8,Try.ntmps8
  go_wp2
  go_loopw [5] (fun i wr=>∃ k n:Nat,k≤l1.length∧i=.int .i64 k∧wr=w.drewN n∧Hid (∀ j (a:j < l1.length) (b:j < l2.length),j < k→l1[j]=l2[j])) (fun i _=>l1.length - (intOf i).toNat)
  case atStart=>exact ⟨0,0,Nat.zero_le _,rfl,rfl,fun j a b h=>absurd h (by omega)⟩
  case round =>
   obtain ⟨k,n,hk,rfl,rfl,HE⟩:=hrel
   by_cases hlt:k < l1.length
   ·have hlt2:k < l2.length:=by have:=HL.out;omega
    obtain ⟨b1,o1,rfl,_⟩:=h1.addr (by omega) (by omega)
    obtain ⟨b2,o2,rfl,_⟩:=h2.addr (by omega) (by omega)
    have r1:=h1.rd_ hlt
    have r2:=h2.rd_ hlt2
    by_cases he:l1[k]=l2[k]
    ·have hd:decide (l1[k]=l2[k])=true:=by simp [he]
     have HE':=Lib.hid he;clear he
     go_wp2
     go_quiet (fail)
     go_wp2
     go_roundw
     case rel =>
      refine ⟨k+1,_,by omega,by go_num,rfl,fun j a b hj=>?_⟩
      rcases Nat.lt_or_ge j k with h | h
      ·exact HE.out j a b h
      ·obtain rfl:j=k:=by omega
       exact HE'.out
     case measure=>simp [intOf];omega
    ·have hd:decide (l1[k]=l2[k])=false:=by simp [he]
     have hne2:decide (l1=l2)=false:=by
      simp only [decide_eq_false_iff_not]
      intro e;subst e;exact he rfl
     clear he
     go_wp2
     go_quiet (fail)
     go_wp2
     go_ret
     exact ⟨ret_bool hne2.symm,n+nq,by rw [World.drewN_drewN]⟩
   ·have he2:decide (l1=l2)=true:=by
     simp only [decide_eq_true_eq]
     exact List.ext_getElem HL.out fun j a b=>HE.out j a b (by omega)
    go_wp2
    go_ret
    exact ⟨ret_bool he2.symm,_,rfl⟩
 ·have hne:((l1.length:Int) != (l2.length:Int))=true:=by simp;omega
  have he2:decide (l1=l2)=false:=by
   simp only [decide_eq_false_iff_not]
   intro e;exact hl (by rw [e])
  clear hl
  go_enter Try.func8,Try.ntmps8
  go_wp2
  go_ret
  exact ⟨ret_bool he2.symm,0,rfl⟩
end Go.Proofs.Ytkcfhciffdnmmaa
namespace Go.Proofs.Ytkcfhciffdnmmaa
set_option linter.unusedSimpArgs false
set_option linter.unusedVariables false
open Go.RowKit
section
attribute [local go_sem ↓] run_load_mks run_eql_mks run_neq_mks
attribute [local go_sem] rd_drewN rd_drew aggLoad_ptr aggRes_some
set_option maxHeartbeats 400000 in
theorem Equal_mks (A1 A2:Option Addr) (c1 c2 B1 B2:Nat) (l1 l2:List Mks) (w:World) (h1:Sl w B1 8 Mks.cells A1 l1) (h2:Sl w B2 8 Mks.cells A2 l2) (hb1:l1.length≤1000000000) (hb2:l2.length≤1000000000) :
  Calls Try.prog 94 #[.slice A1 l1.length c1,.slice A2 l2.length c2] w fun e w'=>e=.returned (.bool (decide (l1=l2)))∧∃ n,w'=w.drewN n:=by
 by_cases hl:l1.length=l2.length
 ·have hne:((l1.length:Int) != (l2.length:Int))=false:=by simp [hl]
  have HL:=Lib.hid hl;clear hl
  go_enter Try.func94,Try.ntmps94
  go_wp2
  go_loopw [5,13] (fun v i wr=>∃ k n:Nat,k≤l1.length∧i=.int .i64 k∧wr=w.drewN n∧Hid (∀ j (a:j < l1.length) (b:j < l2.length),j < k→l1[j]=l2[j])) (fun _ i _=>l1.length - (intOf i).toNat)
  case atStart=>exact ⟨0,0,Nat.zero_le _,rfl,rfl,fun j a b h=>absurd h (by omega)⟩
  case round =>
   obtain ⟨k,n,hk,rfl,rfl,HE⟩:=hrel
   by_cases hlt:k < l1.length
   ·have hlt2:k < l2.length:=by have:=HL.out;omega
    obtain ⟨b1,o1,rfl,_⟩:=h1.addr (by omega) (by omega)
    obtain ⟨b2,o2,rfl,_⟩:=h2.addr (by omega) (by omega)
    have r1:=h1.rd_ hlt
    have r2:=h2.rd_ hlt2
    by_cases he:l1[k]=l2[k]
    ·have hd:decide (l1[k]=l2[k])=true:=by simp [he]
     have HE':=Lib.hid he;clear he
     go_wp2
     go_quiet (fail)
     go_wp2
     go_roundw
     case rel =>
      refine ⟨k+1,_,by omega,by go_num,rfl,fun j a b hj=>?_⟩
      rcases Nat.lt_or_ge j k with h | h
      ·exact HE.out j a b h
      ·obtain rfl:j=k:=by omega
       exact HE'.out
     case measure=>simp [intOf];omega
    ·have hd:decide (l1[k]=l2[k])=false:=by simp [he]
     have hne2:decide (l1=l2)=false:=by
      simp only [decide_eq_false_iff_not]
      intro e;subst e;exact he rfl
     clear he
     go_wp2
     go_quiet (fail)
     go_wp2
     go_ret
     exact ⟨ret_bool hne2.symm,n+nq,by rw [World.drewN_drewN]⟩
   ·have he2:decide (l1=l2)=true:=by
     simp only [decide_eq_true_eq]
     exact List.ext_getElem HL.out fun j a b=>HE.out j a b (by omega)
    go_wp2
    go_ret
    exact ⟨ret_bool he2.symm,_,rfl⟩
 ·have hne:((l1.length:Int) != (l2.length:Int))=true:=by simp;omega
  have he2:decide (l1=l2)=false:=by
   simp only [decide_eq_false_iff_not]
   intro e;exact hl (by rw [e])
  clear hl
  go_enter Try.func94,Try.ntmps94
  go_wp2
  go_ret
  exact ⟨ret_bool he2.symm,0,rfl⟩
set_option maxHeartbeats 400000 in
theorem Sets_any (A1 A2:Option Addr) (n1 n2 c1 c2 B1 B2:Nat) (l1 l2:List Mks) (w:World) (hn1:l1.length=n1) (hn2:l2.length=n2) (h1:Sl w B1 8 Mks.cells A1 l1) (h2:Sl w B2 8 Mks.cells A2 l2) (hb1:n1≤1000000000) (hb2:n2≤1000000000) :
  Calls Try.prog 36 #[.slice A1 n1 c1,.slice A2 n2 c2] w fun e w'=>e=.returned (.bool (decide (l1=l2)))∧∃ n,w'=w.drewN n:=by
 subst hn1;subst hn2
 by_cases hl:l1.length=l2.length
 ·have hne:((l1.length:Int) != (l2.length:Int))=false:=by simp [hl]
  have HL:=Lib.hid hl;clear hl
  go_enter Try.func36,Try.ntmps36
  go_wp2
  go_loopw [5] (fun i wr=>∃ k n:Nat,k≤l1.length∧i=.int .i64 k∧wr=w.drewN n∧Hid (∀ j (a:j < l1.length) (b:j < l2.length),j < k→l1[j]=l2[j])) (fun i _=>l1.length - (intOf i).toNat)
  case atStart=>exact ⟨0,0,Nat.zero_le _,rfl,rfl,fun j a b h=>absurd h (by omega)⟩
  case round =>
   obtain ⟨k,n,hk,rfl,rfl,HE⟩:=hrel
   by_cases hlt:k < l1.length
   ·have hlt2:k < l2.length:=by have:=HL.out;omega
    obtain ⟨b1,o1,rfl,_⟩:=h1.addr (by omega) (by omega)
    obtain ⟨b2,o2,rfl,_⟩:=h2.addr (by omega) (by omega)
    have r1:=h1.rd_ hlt
    have r2:=h2.rd_ hlt2
    by_cases he:l1[k]=l2[k]
    ·have hd:decide (l1[k]=l2[k])=true:=by simp [he]
     have HE':=Lib.hid he;clear he
     go_wp2
     go_quiet (fail)
     go_wp2
     go_roundw
     case rel =>
      refine ⟨k+1,_,by omega,by go_num,rfl,fun j a b hj=>?_⟩
      rcases Nat.lt_or_ge j k with h | h
      ·exact HE.out j a b h
      ·obtain rfl:j=k:=by omega
       exact HE'.out
     case measure=>simp [intOf];omega
    ·have hd:decide (l1[k]=l2[k])=false:=by simp [he]
     have hne2:decide (l1=l2)=false:=by
      simp only [decide_eq_false_iff_not]
      intro e;subst e;exact he rfl
     clear he
     go_wp2
     go_quiet (fail)
     go_wp2
     go_ret
     exact ⟨ret_bool hne2.symm,n+nq,by rw [World.drewN_drewN]⟩
   ·have he2:decide (l1=l2)=true:=by
     simp only [decide_eq_true_eq]
     exact List.ext_getElem HL.out fun j a b=>HE.out j a b (by omega)
    go_wp2
    go_ret
    exact ⟨ret_bool he2.symm,_,rfl⟩
 ·have hne:((l1.length:Int) != (l2.length:Int))=true:=by simp;omega
  have he2:decide (l1=l2)=false:=by
   simp only [decide_eq_false_iff_not]
   intro e;exact hl (by rw [e])
  clear hl
  go_enter Try.func36,Try.ntmps36
  go_wp2
  go_ret
  exact ⟨ret_bool he2.symm,0,rfl⟩
end
theorem TokSame_any (A1 A2:Option Addr) (n1 n2 c1 c2 B1 B2:Nat) (l1 l2:List Tok) (w:World) (hn1:l1.length=n1) (hn2:l2.length=n2) (h1:Sl w B1 12 Tok.cells A1 l1) (h2:Sl w B2 12 Tok.cells A2 l2) (hb1:n1≤1000000000) (hb2:n2≤1000000000) :
  Calls Try.prog 32 #[.slice A1 n1 c1,.slice A2 n2 c2] w fun e w'=>e=.returned (.bool (decide (l1=l2)))∧∃ n,w'=w.drewN n:=by
 subst hn1;subst hn2
 have HC:=Lib.hid (Equal_tok A1 A2 c1 c2 B1 B2 l1 l2 w h1 h2 hb1 hb2)
 clear h1 h2
 go_enter Try.func32,Try.ntmps32
 go_wp2_with (go_at_call 55;refine HC.out.mono ?_;rintro e w1 ⟨rfl,k,hk⟩)
 go_ret
 exact ⟨rfl,k,by subst hk;rfl⟩
theorem EqMks_any (A1 A2:Option Addr) (n1 n2 c1 c2 B1 B2:Nat) (l1 l2:List Mks) (w:World) (hn1:l1.length=n1) (hn2:l2.length=n2) (h1:Sl w B1 8 Mks.cells A1 l1) (h2:Sl w B2 8 Mks.cells A2 l2) (hb1:n1≤1000000000) (hb2:n2≤1000000000) :
  Calls Try.prog 94 #[.slice A1 n1 c1,.slice A2 n2 c2] w fun e w'=>e=.returned (.bool (decide (l1=l2)))∧∃ n,w'=w.drewN n:=by
 subst hn1;subst hn2
 exact Equal_mks A1 A2 c1 c2 B1 B2 l1 l2 w h1 h2 hb1 hb2
theorem st_ne {x y:St} (h:¬ (x.k=y.k∧x.f=y.f∧x.t=y.t∧x.gf=y.gf∧x.gt=y.gt∧x.ins=y.ins∧x.mark=y.mark∧x.vl=y.vl∧x.sl=y.sl∧x.sets=y.sets)):decide (x=y)=false:=by
 simp only [decide_eq_false_iff_not]
 exact fun e=>h ((St.eq_iff x y).2 e)
end Go.Proofs.Ytkcfhciffdnmmaa
namespace Go.Proofs.Ytkcfhciffdnmmaa
set_option linter.unusedSimpArgs false
set_option linter.unusedVariables false
open Go.RowKit
set_option maxRecDepth 100000 in
set_option maxHeartbeats 4000000 in
theorem StepSame_any (x y:Stp) (B1 B2:Nat) (w:World) (hx:x.Ok w B1) (hy:y.Ok w B2) (hB1:B1≤w.heap.size) (hB2:B2≤w.heap.size) (b1:x.n1≤1000000) (b2:y.n1≤1000000) (b3:x.n2≤1000000) (b4:y.n2≤1000000) :
  Calls Try.prog 93 #[.agg x.cells.toArray,.agg y.cells.toArray] w fun e w'=>e=.returned (.bool (decide (x.v=y.v)))∧Below w.heap.size w w':=by
 obtain ⟨⟨k,f,t,gf,gt,ins,mark,vl,sl,sets⟩,a1,n1,c1,a2,n2,c2⟩:=x
 obtain ⟨⟨k',f',t',gf',gt',ins',mark',vl',sl',sets'⟩,a1',n1',c1',a2',n2',c2'⟩:=y
 have HX:=Lib.hid hx
 have HY:=Lib.hid hy
 clear hx hy
 simp only at b1 b2 b3 b4
 simp only [Stp.cells]
 have HB0:Hid (∀ d1 d2,Below w.heap.size w ((w.alloc (.cells d1 26)).alloc (.cells d2 26))):=fun d1 d2=>((Below.refl _ w).alloc (Nat.le_refl _) _).alloc (by simp) _
 by_cases h0:k=k'
 case neg =>
  have hb:(k == k')=false:=by simpa using h0
  have hd:=st_ne (x:=⟨k,f,t,gf,gt,ins,mark,vl,sl,sets⟩) (y:=⟨k',f',t',gf',gt',ins',mark',vl',sl',sets'⟩) (fun e=>h0 e.1)
  clear h0
  go_enter Try.func93,Try.ntmps93
  go_wp2_with fail
  go_ret
  exact ⟨ret_bool hd.symm,HB0.out _ _⟩
 subst h0
 have g0:(k == k)=true:=by simp
 by_cases h1:f=f'
 case neg =>
  have hb:(f == f')=false:=by simpa using h1
  have hd:=st_ne (x:=⟨k,f,t,gf,gt,ins,mark,vl,sl,sets⟩) (y:=⟨k,f',t',gf',gt',ins',mark',vl',sl',sets'⟩) (fun e=>h1 e.2.1)
  clear h1
  go_enter Try.func93,Try.ntmps93
  go_wp2_with fail
  go_ret
  exact ⟨ret_bool hd.symm,HB0.out _ _⟩
 subst h1
 have g1:(f == f)=true:=by simp
 by_cases h2:t=t'
 case neg =>
  have hb:(t == t')=false:=by simpa using h2
  have hd:=st_ne (x:=⟨k,f,t,gf,gt,ins,mark,vl,sl,sets⟩) (y:=⟨k,f,t',gf',gt',ins',mark',vl',sl',sets'⟩) (fun e=>h2 e.2.2.1)
  clear h2
  go_enter Try.func93,Try.ntmps93
  go_wp2_with fail
  go_ret
  exact ⟨ret_bool hd.symm,HB0.out _ _⟩
 subst h2
 have g2:(t == t)=true:=by simp
 by_cases h3:gf=gf'
 case neg =>
  have hb:(gf == gf')=false:=by simpa using h3
  have hd:=st_ne (x:=⟨k,f,t,gf,gt,ins,mark,vl,sl,sets⟩) (y:=⟨k,f,t,gf',gt',ins',mark',vl',sl',sets'⟩) (fun e=>h3 e.2.2.2.1)
  clear h3
  go_enter Try.func93,Try.ntmps93
  go_wp2_with fail
  go_ret
  exact ⟨ret_bool hd.symm,HB0.out _ _⟩
 subst h3
 have g3:(gf == gf)=true:=by simp
 by_cases h4:gt=gt'
 case neg =>
  have hb:(gt == gt')=false:=by simpa using h4
  have hd:=st_ne (x:=⟨k,f,t,gf,gt,ins,mark,vl,sl,sets⟩) (y:=⟨k,f,t,gf,gt',ins',mark',vl',sl',sets'⟩) (fun e=>h4 e.2.2.2.2.1)
  clear h4
  go_enter Try.func93,Try.ntmps93
  go_wp2_with fail
  go_ret
  exact ⟨ret_bool hd.symm,HB0.out _ _⟩
 subst h4
 have g4:(gt == gt)=true:=by simp
 by_cases h5:ins=ins'
 case neg =>
  have hb:(ins == ins')=false:=by simpa using h5
  have hd:=st_ne (x:=⟨k,f,t,gf,gt,ins,mark,vl,sl,sets⟩) (y:=⟨k,f,t,gf,gt,ins',mark',vl',sl',sets'⟩) (fun e=>h5 e.2.2.2.2.2.1)
  clear h5
  go_enter Try.func93,Try.ntmps93
  go_wp2_with fail
  go_ret
  exact ⟨ret_bool hd.symm,HB0.out _ _⟩
 subst h5
 have g5:(ins == ins)=true:=by simp
 by_cases h6:mark=mark'
 case neg =>
  have hb:(mark == mark')=false:=by simpa using h6
  have hd:=st_ne (x:=⟨k,f,t,gf,gt,ins,mark,vl,sl,sets⟩) (y:=⟨k,f,t,gf,gt,ins,mark',vl',sl',sets'⟩) (fun e=>h6 e.2.2.2.2.2.2.1)
  clear h6
  go_enter Try.func93,Try.ntmps93
  go_wp2_with fail
  go_ret
  exact ⟨ret_bool hd.symm,HB0.out _ _⟩
 subst h6
 have g6:(mark == mark)=true:=by simp
 by_cases h7:vl=vl'
 case neg =>
  have hb:(vl == vl')=false:=by simpa using h7
  have hd:=st_ne (x:=⟨k,f,t,gf,gt,ins,mark,vl,sl,sets⟩) (y:=⟨k,f,t,gf,gt,ins,mark,vl',sl',sets'⟩) (fun e=>h7 e.2.2.2.2.2.2.2.1)
  clear h7
  go_enter Try.func93,Try.ntmps93
  go_wp2_with fail
  go_ret
  exact ⟨ret_bool hd.symm,HB0.out _ _⟩
 subst h7
 have g7:(vl == vl)=true:=by simp
 have HT:=Lib.hid (fun w' (hb:Below w.heap.size w w')=>TokSame_any a1 a1' n1 n1' c1 c1' B1 B2 sl sl' w' HX.out.1 HY.out.1 (HX.out.2.2.1.below (hb.mono hB1)) (HY.out.2.2.1.below (hb.mono hB2)) (by omega) (by omega))
 have HS:=Lib.hid (fun w' (hb:Below w.heap.size w w')=>EqMks_any a2 a2' n2 n2' c2 c2' B1 B2 sets sets' w' HX.out.2.1 HY.out.2.1 (HX.out.2.2.2.1.below (hb.mono hB1)) (HY.out.2.2.2.1.below (hb.mono hB2)) (by omega) (by omega))
 by_cases hl:sl=sl'
 case neg =>
  have hd:decide (sl=sl')=false:=by simpa using hl
  have hr:decide ((⟨k,f,t,gf,gt,ins,mark,vl,sl,sets⟩:St)=⟨k,f,t,gf,gt,ins,mark,vl,sl',sets'⟩)=false:=st_ne (fun e=>hl e.2.2.2.2.2.2.2.2.1)
  clear hl
  go_enter Try.func93,Try.ntmps93
  go_wp2_with (go_at_call 32;refine (HT.out _ (HB0.out _ _)).mono ?_;rintro e w1 ⟨rfl,q,hq⟩)
  go_ret
  exact ⟨ret_bool hr.symm,by subst hq;exact below_drewN (HB0.out _ _) _⟩
 have hd:decide (sl=sl')=true:=by simpa using hl
 have hr:decide ((⟨k,f,t,gf,gt,ins,mark,vl,sl,sets⟩:St)=⟨k,f,t,gf,gt,ins,mark,vl,sl',sets'⟩)=decide (sets=sets'):=by
  subst hl
  exact decide_eq_decide.2 ⟨fun e=>by injection e,fun e=>by subst e;rfl⟩
 clear hl
 go_enter Try.func93,Try.ntmps93
 go_wp2_with (first
  | (go_at_call 32;refine (HT.out _ (HB0.out _ _)).mono ?_;rintro e w1 ⟨rfl,q,rfl⟩)
  | (go_at_call 94;refine (HS.out _ (below_drewN (HB0.out _ _) _)).mono ?_;rintro e w2 ⟨rfl,q2,rfl⟩)
  | fail)
 go_ret
 exact ⟨ret_bool hr.symm,by first | exact below_drewN (HB0.out _ _) _ | exact below_drewN (below_drewN (HB0.out _ _) _) _⟩
set_option linter.unnecessarySimpa false
attribute [local go_sem ↓] run_load_step
attribute [local go_sem] rd_drewN rd_drew aggLoad_ptr aggRes_some Stp.cells_length build_stp
set_option maxRecDepth 100000 in
set_option maxHeartbeats 4000000 in
theorem SpliceShape (x:Stp) (B:Nat) (w:World) (hx:x.Ok w B) (hB:B≤w.heap.size) (b1:x.n1≤1000000) (b2:x.n2≤1000000) :
  Calls Try.prog 91 #[.agg x.cells.toArray] w fun e w'=>e=.returned (.bool (decide (x.v=(⟨x.v.k,x.v.f,x.v.t,0,0,0,0,0,x.v.sl,[]⟩:St))&&decide ((x.n1:Int)≤20000)))∧Below w.heap.size w w':=by
 have r0:rd (w.alloc (.cells x.cells.toArray 129)) ⟨w.heap.size,0,none⟩ 10=some x.cells:=rd_alloc_new w x.cells 129 10 x.cells_length
 have HB0:Hid (Below w.heap.size w (w.alloc (.cells x.cells.toArray 129))):=(Below.refl _ w).alloc (Nat.le_refl _) _
 have c0:(w.alloc (.cells x.cells.toArray 129)).cell? ⟨w.heap.size,0,none⟩=some (.int .i64 x.v.k):=by
  have:=(rd_cell r0).2 0 (by omega)
  simpa [Addr.add,Stp.cells] using this
 have c1:(w.alloc (.cells x.cells.toArray 129)).cell? ⟨w.heap.size,1,none⟩=some (.int .i64 x.v.f):=by
  have:=(rd_cell r0).2 1 (by omega)
  simpa [Addr.add,Stp.cells] using this
 have c2:(w.alloc (.cells x.cells.toArray 129)).cell? ⟨w.heap.size,2,none⟩=some (.int .i64 x.v.t):=by
  have:=(rd_cell r0).2 2 (by omega)
  simpa [Addr.add,Stp.cells] using this
 have c8:(w.alloc (.cells x.cells.toArray 129)).cell? ⟨w.heap.size,8,none⟩=some (.slice x.a1 x.n1 x.c1):=by
  have:=(rd_cell r0).2 8 (by omega)
  simpa [Addr.add,Stp.cells] using this
 have HS:Hid (∀ w',Below w.heap.size w w'→Calls Try.prog 93 #[.agg x.cells.toArray,.agg #[.int .i64 x.v.k,.int .i64 x.v.f,.int .i64 x.v.t,.int .i64 0,.int .i64 0,.int .i64 0,.int .i64 0,.int .i64 0,.slice x.a1 x.n1 x.c1,.slice none 0 0]] w' fun e w''=>e=.returned (.bool (decide (x.v=(⟨x.v.k,x.v.f,x.v.t,0,0,0,0,0,x.v.sl,[]⟩:St))))∧Below w'.heap.size w' w''):=fun w' hb =>
  StepSame_any x ⟨⟨x.v.k,x.v.f,x.v.t,0,0,0,0,0,x.v.sl,[]⟩,x.a1,x.n1,x.c1,none,0,0⟩ B B w' (hx.keep hB hb) (⟨hx.1,rfl,(hx.keep hB hb).2.2.1,⟨Mks.cells_length,Reads.none_⟩,hx.2.2.2.2.1,Nat.le_refl _⟩) (Nat.le_trans hB hb.size) (Nat.le_trans hB hb.size) b1 b1 b2 (by simp)
 obtain ⟨same,hsame⟩:∃ b,decide (x.v=(⟨x.v.k,x.v.f,x.v.t,0,0,0,0,0,x.v.sl,[]⟩:St))=b:=⟨_,rfl⟩
 rw [hsame] at HS ⊢
 clear hsame
 have KB:Hid (∀ w1,Below (w.alloc (.cells x.cells.toArray 129)).heap.size (w.alloc (.cells x.cells.toArray 129)) w1→Below w.heap.size w w1):=fun w1 hb=>HB0.out.trans (hb.mono HB0.out.size)
 have KEEP:Hid (∀ w1,Below (w.alloc (.cells x.cells.toArray 129)).heap.size (w.alloc (.cells x.cells.toArray 129)) w1→∀ i v,(w.alloc (.cells x.cells.toArray 129)).cell? ⟨w.heap.size,i,none⟩=some v→w1.cell? ⟨w.heap.size,i,none⟩=some v):=fun w1 hb i v hv=>by
  rw [hb.cell (p:=⟨w.heap.size,i,none⟩) (by simp),hv]
 cases same
 case false =>
  go_enter Try.func91,Try.ntmps91
  go_wp2_with (go_at_call 93;refine (HS.out _ HB0.out).mono ?_;rintro e w1 ⟨rfl,hb1⟩;have HB1:=Lib.hid (KB.out _ hb1);have HK:=KEEP.out _ hb1;skip;clear HK hb1)
  go_ret
  exact ⟨rfl,HB1.out⟩
 go_enter Try.func91,Try.ntmps91
 go_wp2_with (go_at_call 93;refine (HS.out _ HB0.out).mono ?_;rintro e w1 ⟨rfl,hb1⟩;have HB1:=Lib.hid (KB.out _ hb1);have HK:=KEEP.out _ hb1;have k8:=HK 8 _ c8;clear HK hb1)
 go_ret
 exact ⟨rfl,HB1.out⟩
set_option maxRecDepth 100000 in
set_option maxHeartbeats 4000000 in
theorem MarkShape (x:Stp) (B:Nat) (w:World) (hx:x.Ok w B) (hB:B≤w.heap.size) (b1:x.n1≤1000000) (b2:x.n2≤1000000) :
  Calls Try.prog 103 #[.agg x.cells.toArray] w fun e w'=>e=.returned (.bool (decide (x.v=(⟨x.v.k,x.v.f,x.v.t,0,0,0,x.v.mark,x.v.vl,[],[]⟩:St))))∧Below w.heap.size w w':=by
 have r0:rd (w.alloc (.cells x.cells.toArray 131)) ⟨w.heap.size,0,none⟩ 10=some x.cells:=rd_alloc_new w x.cells 131 10 x.cells_length
 have HB0:Hid (Below w.heap.size w (w.alloc (.cells x.cells.toArray 131))):=(Below.refl _ w).alloc (Nat.le_refl _) _
 have c0:(w.alloc (.cells x.cells.toArray 131)).cell? ⟨w.heap.size,0,none⟩=some (.int .i64 x.v.k):=by
  have:=(rd_cell r0).2 0 (by omega)
  simpa [Addr.add,Stp.cells] using this
 have c1:(w.alloc (.cells x.cells.toArray 131)).cell? ⟨w.heap.size,1,none⟩=some (.int .i64 x.v.f):=by
  have:=(rd_cell r0).2 1 (by omega)
  simpa [Addr.add,Stp.cells] using this
 have c2:(w.alloc (.cells x.cells.toArray 131)).cell? ⟨w.heap.size,2,none⟩=some (.int .i64 x.v.t):=by
  have:=(rd_cell r0).2 2 (by omega)
  simpa [Addr.add,Stp.cells] using this
 have c6:(w.alloc (.cells x.cells.toArray 131)).cell? ⟨w.heap.size,6,none⟩=some (.int .i64 x.v.mark):=by
  have:=(rd_cell r0).2 6 (by omega)
  simpa [Addr.add,Stp.cells] using this
 have c7:(w.alloc (.cells x.cells.toArray 131)).cell? ⟨w.heap.size,7,none⟩=some (.int .i64 x.v.vl):=by
  have:=(rd_cell r0).2 7 (by omega)
  simpa [Addr.add,Stp.cells] using this
 have HS:Hid (∀ w',Below w.heap.size w w'→Calls Try.prog 93 #[.agg x.cells.toArray,.agg #[.int .i64 x.v.k,.int .i64 x.v.f,.int .i64 x.v.t,.int .i64 0,.int .i64 0,.int .i64 0,.int .i64 x.v.mark,.int .i64 x.v.vl,.slice none 0 0,.slice none 0 0]] w' fun e w''=>e=.returned (.bool (decide (x.v=(⟨x.v.k,x.v.f,x.v.t,0,0,0,x.v.mark,x.v.vl,[],[]⟩:St))))∧Below w'.heap.size w' w''):=fun w' hb =>
  StepSame_any x ⟨⟨x.v.k,x.v.f,x.v.t,0,0,0,x.v.mark,x.v.vl,[],[]⟩,none,0,0,none,0,0⟩ B B w' (hx.keep hB hb) (⟨rfl,rfl,⟨Tok.cells_length,Reads.none_⟩,⟨Mks.cells_length,Reads.none_⟩,Nat.le_refl _,Nat.le_refl _⟩) (Nat.le_trans hB hb.size) (Nat.le_trans hB hb.size) b1 (by simp) b2 (by simp)
 obtain ⟨same,hsame⟩:∃ b,decide (x.v=(⟨x.v.k,x.v.f,x.v.t,0,0,0,x.v.mark,x.v.vl,[],[]⟩:St))=b:=⟨_,rfl⟩
 rw [hsame] at HS ⊢
 clear hsame
 have KB:Hid (∀ w1,Below (w.alloc (.cells x.cells.toArray 131)).heap.size (w.alloc (.cells x.cells.toArray 131)) w1→Below w.heap.size w w1):=fun w1 hb=>HB0.out.trans (hb.mono HB0.out.size)
 have KEEP:Hid (∀ w1,Below (w.alloc (.cells x.cells.toArray 131)).heap.size (w.alloc (.cells x.cells.toArray 131)) w1→∀ i v,(w.alloc (.cells x.cells.toArray 131)).cell? ⟨w.heap.size,i,none⟩=some v→w1.cell? ⟨w.heap.size,i,none⟩=some v):=fun w1 hb i v hv=>by
  rw [hb.cell (p:=⟨w.heap.size,i,none⟩) (by simp),hv]
 go_enter Try.func103,Try.ntmps103
 go_wp2_with (go_at_call 93;refine (HS.out _ HB0.out).mono ?_;rintro e w1 ⟨rfl,hb1⟩;have HB1:=Lib.hid (KB.out _ hb1);have HK:=KEEP.out _ hb1;skip;clear HK hb1)
 go_ret
 exact ⟨rfl,HB1.out⟩
set_option maxRecDepth 100000 in
set_option maxHeartbeats 4000000 in
theorem RemarkShape (x:Stp) (B:Nat) (w:World) (hx:x.Ok w B) (hB:B≤w.heap.size) (b1:x.n1≤1000000) (b2:x.n2≤1000000) (hf:0≤x.v.f) (hft:x.v.f≤x.v.t) (ht:x.v.t≤1073741824) :
  Calls Try.prog 108 #[.agg x.cells.toArray] w fun e w'=>e=.returned (.bool (decide (x.v=(⟨x.v.k,x.v.f,x.v.t,0,0,0,0,0,[],x.v.sets⟩:St))&&((x.n2:Int) == x.v.t - x.v.f)&&decide ((x.n2:Int)≤20000)))∧Below w.heap.size w w':=by
 have r0:rd (w.alloc (.cells x.cells.toArray 132)) ⟨w.heap.size,0,none⟩ 10=some x.cells:=rd_alloc_new w x.cells 132 10 x.cells_length
 have HB0:Hid (Below w.heap.size w (w.alloc (.cells x.cells.toArray 132))):=(Below.refl _ w).alloc (Nat.le_refl _) _
 have c0:(w.alloc (.cells x.cells.toArray 132)).cell? ⟨w.heap.size,0,none⟩=some (.int .i64 x.v.k):=by
  have:=(rd_cell r0).2 0 (by omega)
  simpa [Addr.add,Stp.cells] using this
 have c1:(w.alloc (.cells x.cells.toArray 132)).cell? ⟨w.heap.size,1,none⟩=some (.int .i64 x.v.f):=by
  have:=(rd_cell r0).2 1 (by omega)
  simpa [Addr.add,Stp.cells] using this
 have c2:(w.alloc (.cells x.cells.toArray 132)).cell? ⟨w.heap.size,2,none⟩=some (.int .i64 x.v.t):=by
  have:=(rd_cell r0).2 2 (by omega)
  simpa [Addr.add,Stp.cells] using this
 have c9:(w.alloc (.cells x.cells.toArray 132)).cell? ⟨w.heap.size,9,none⟩=some (.slice x.a2 x.n2 x.c2):=by
  have:=(rd_cell r0).2 9 (by omega)
  simpa [Addr.add,Stp.cells] using this
 have HS:Hid (∀ w',Below w.heap.size w w'→Calls Try.prog 93 #[.agg x.cells.toArray,.agg #[.int .i64 x.v.k,.int .i64 x.v.f,.int .i64 x.v.t,.int .i64 0,.int .i64 0,.int .i64 0,.int .i64 0,.int .i64 0,.slice none 0 0,.slice x.a2 x.n2 x.c2]] w' fun e w''=>e=.returned (.bool (decide (x.v=(⟨x.v.k,x.v.f,x.v.t,0,0,0,0,0,[],x.v.sets⟩:St))))∧Below w'.heap.size w' w''):=fun w' hb =>
  StepSame_any x ⟨⟨x.v.k,x.v.f,x.v.t,0,0,0,0,0,[],x.v.sets⟩,none,0,0,x.a2,x.n2,x.c2⟩ B B w' (hx.keep hB hb) (⟨rfl,hx.2.1,⟨Tok.cells_length,Reads.none_⟩,(hx.keep hB hb).2.2.2.1,Nat.le_refl _,hx.2.2.2.2.2⟩) (Nat.le_trans hB hb.size) (Nat.le_trans hB hb.size) b1 (by simp) b2 b2
 obtain ⟨same,hsame⟩:∃ b,decide (x.v=(⟨x.v.k,x.v.f,x.v.t,0,0,0,0,0,[],x.v.sets⟩:St))=b:=⟨_,rfl⟩
 rw [hsame] at HS ⊢
 clear hsame
 have KB:Hid (∀ w1,Below (w.alloc (.cells x.cells.toArray 132)).heap.size (w.alloc (.cells x.cells.toArray 132)) w1→Below w.heap.size w w1):=fun w1 hb=>HB0.out.trans (hb.mono HB0.out.size)
 have KEEP:Hid (∀ w1,Below (w.alloc (.cells x.cells.toArray 132)).heap.size (w.alloc (.cells x.cells.toArray 132)) w1→∀ i v,(w.alloc (.cells x.cells.toArray 132)).cell? ⟨w.heap.size,i,none⟩=some v→w1.cell? ⟨w.heap.size,i,none⟩=some v):=fun w1 hb i v hv=>by
  rw [hb.cell (p:=⟨w.heap.size,i,none⟩) (by simp),hv]
 have hwr:IntKind.i64.wrap (x.v.t - x.v.f)=x.v.t - x.v.f:=by rw [IntKind.wrap_i64];omega
 cases same
 case false =>
  go_enter Try.func108,Try.ntmps108
  go_wp2_with (go_at_call 93;refine (HS.out _ HB0.out).mono ?_;rintro e w1 ⟨rfl,hb1⟩;have HB1:=Lib.hid (KB.out _ hb1);have HK:=KEEP.out _ hb1;skip;clear HK hb1)
  go_ret
  exact ⟨rfl,HB1.out⟩
 cases e1:((x.n2:Int) == x.v.t - x.v.f)
 case false =>
  go_enter Try.func108,Try.ntmps108
  go_wp2_with (go_at_call 93;refine (HS.out _ HB0.out).mono ?_;rintro e w1 ⟨rfl,hb1⟩;have HB1:=Lib.hid (KB.out _ hb1);have HK:=KEEP.out _ hb1;have k1:=HK 1 _ c1;have k2:=HK 2 _ c2;have k9:=HK 9 _ c9;clear HK hb1)
  go_ret
  exact ⟨rfl,HB1.out⟩
 go_enter Try.func108,Try.ntmps108
 go_wp2_with (go_at_call 93;refine (HS.out _ HB0.out).mono ?_;rintro e w1 ⟨rfl,hb1⟩;have HB1:=Lib.hid (KB.out _ hb1);have HK:=KEEP.out _ hb1;have k1:=HK 1 _ c1;have k2:=HK 2 _ c2;have k9:=HK 9 _ c9;clear HK hb1)
 go_ret
 exact ⟨rfl,HB1.out⟩
end Go.Proofs.Ytkcfhciffdnmmaa
namespace Go.Proofs.Ytkcfhciffdnmmaa
set_option linter.unusedSimpArgs false
set_option linter.unusedVariables false
set_option linter.unnecessarySimpa false
open Go.RowKit
attribute [local go_sem ↓] run_load_step
attribute [local go_sem] rd_drewN rd_drew aggLoad_ptr aggRes_some Stp.cells_length build_stp
set_option maxRecDepth 100000 in
set_option maxHeartbeats 4000000 in
theorem AroundShape (x:Stp) (B:Nat) (w:World) (hx:x.Ok w B) (hB:B≤w.heap.size) (b1:x.n1≤1000000) (b2:x.n2≤1000000) :
  Calls Try.prog 98 #[.agg x.cells.toArray] w fun e w'=>e=.returned (.bool ((decide (x.v.f≤x.v.gf)&&decide (x.v.gf≤x.v.gt)&&decide (x.v.gt≤x.v.t))&&decide (0≤x.v.ins)&&decide (x.v.ins≤(x.n1:Int))&&decide ((x.n1:Int)≤20000)&&(x.v.mark == 0)&&(x.v.vl == 0)&&((x.n2:Int) == 0)))∧Below w.heap.size w w':=by
 have r0:rd (w.alloc (.cells x.cells.toArray 130)) ⟨w.heap.size,0,none⟩ 10=some x.cells:=rd_alloc_new w x.cells 130 10 x.cells_length
 have HB0:Hid (Below w.heap.size w (w.alloc (.cells x.cells.toArray 130))):=(Below.refl _ w).alloc (Nat.le_refl _) _
 have c1:(w.alloc (.cells x.cells.toArray 130)).cell? ⟨w.heap.size,1,none⟩=some (.int .i64 x.v.f):=by
  have:=(rd_cell r0).2 1 (by omega)
  simpa [Addr.add,Stp.cells] using this
 have c2:(w.alloc (.cells x.cells.toArray 130)).cell? ⟨w.heap.size,2,none⟩=some (.int .i64 x.v.t):=by
  have:=(rd_cell r0).2 2 (by omega)
  simpa [Addr.add,Stp.cells] using this
 have c3:(w.alloc (.cells x.cells.toArray 130)).cell? ⟨w.heap.size,3,none⟩=some (.int .i64 x.v.gf):=by
  have:=(rd_cell r0).2 3 (by omega)
  simpa [Addr.add,Stp.cells] using this
 have c4:(w.alloc (.cells x.cells.toArray 130)).cell? ⟨w.heap.size,4,none⟩=some (.int .i64 x.v.gt):=by
  have:=(rd_cell r0).2 4 (by omega)
  simpa [Addr.add,Stp.cells] using this
 have c5:(w.alloc (.cells x.cells.toArray 130)).cell? ⟨w.heap.size,5,none⟩=some (.int .i64 x.v.ins):=by
  have:=(rd_cell r0).2 5 (by omega)
  simpa [Addr.add,Stp.cells] using this
 have c6:(w.alloc (.cells x.cells.toArray 130)).cell? ⟨w.heap.size,6,none⟩=some (.int .i64 x.v.mark):=by
  have:=(rd_cell r0).2 6 (by omega)
  simpa [Addr.add,Stp.cells] using this
 have c7:(w.alloc (.cells x.cells.toArray 130)).cell? ⟨w.heap.size,7,none⟩=some (.int .i64 x.v.vl):=by
  have:=(rd_cell r0).2 7 (by omega)
  simpa [Addr.add,Stp.cells] using this
 have c8:(w.alloc (.cells x.cells.toArray 130)).cell? ⟨w.heap.size,8,none⟩=some (.slice x.a1 x.n1 x.c1):=by
  have:=(rd_cell r0).2 8 (by omega)
  simpa [Addr.add,Stp.cells] using this
 have c9:(w.alloc (.cells x.cells.toArray 130)).cell? ⟨w.heap.size,9,none⟩=some (.slice x.a2 x.n2 x.c2):=by
  have:=(rd_cell r0).2 9 (by omega)
  simpa [Addr.add,Stp.cells] using this
 obtain ⟨gp,hgp⟩:∃ b,(decide (x.v.f≤x.v.gf)&&decide (x.v.gf≤x.v.gt)&&decide (x.v.gt≤x.v.t))=b:=⟨_,rfl⟩
 rw [hgp]
 have HGP:=Lib.hid hgp
 clear hgp
 obtain ⟨sh,hsh⟩:∃ b,(gp&&decide (0≤x.v.ins)&&decide (x.v.ins≤(x.n1:Int))&&decide ((x.n1:Int)≤20000)&&(x.v.mark == 0)&&(x.v.vl == 0)&&((x.n2:Int) == 0))=b:=⟨_,rfl⟩
 rw [hsh]
 have HSH:=Lib.hid hsh.symm
 clear hsh
 go_enter Try.func98,Try.ntmps98
 go_upto_region 1 with fail
 go_cut [3] (fun v wx=>v=.bool gp∧w.alloc (.cells x.cells.toArray 130)=wx)
 case first =>
  cases e1:decide (x.v.f≤x.v.gf)
  case false =>
   go_wp2
   go_meet
   case rel=>exact ⟨by rw [←HGP.out,e1];rfl,rfl⟩
  cases e2:decide (x.v.gf≤x.v.gt)
  case false =>
   go_wp2
   go_meet
   case rel=>exact ⟨by rw [←HGP.out,e1,e2];rfl,rfl⟩
  cases e3:decide (x.v.gt≤x.v.t)
  case false =>
   go_wp2
   go_meet
   case rel=>exact ⟨by rw [←HGP.out,e1,e2,e3];rfl,rfl⟩
  go_wp2
  go_meet
  case rel=>exact ⟨by rw [←HGP.out,e1,e2,e3];rfl,rfl⟩
 case rest =>
  obtain ⟨rfl,rfl⟩:=hcut
  clear HGP
  cases gp
  case false =>
   go_wp2
   go_ret
   exact ⟨ret_bool (by rw [HSH.out];rfl),HB0.out⟩
  cases e1:decide (0≤x.v.ins)
  case false =>
   go_wp2
   go_ret
   exact ⟨ret_bool (by rw [HSH.out,e1];rfl),HB0.out⟩
  cases e2:decide (x.v.ins≤(x.n1:Int))
  case false =>
   go_wp2
   go_ret
   exact ⟨ret_bool (by rw [HSH.out,e1,e2];rfl),HB0.out⟩
  cases e3:decide ((x.n1:Int)≤20000)
  case false =>
   go_wp2
   go_ret
   exact ⟨ret_bool (by rw [HSH.out,e1,e2,e3];rfl),HB0.out⟩
  cases e4:(x.v.mark == 0)
  case false =>
   go_wp2
   go_ret
   exact ⟨ret_bool (by rw [HSH.out,e1,e2,e3,e4];rfl),HB0.out⟩
  cases e5:(x.v.vl == 0)
  case false =>
   go_wp2
   go_ret
   exact ⟨ret_bool (by rw [HSH.out,e1,e2,e3,e4,e5];rfl),HB0.out⟩
  cases e6:((x.n2:Int) == 0)
  case false =>
   go_wp2
   go_ret
   exact ⟨ret_bool (by rw [HSH.out,e1,e2,e3,e4,e5,e6];rfl),HB0.out⟩
  go_wp2
  go_ret
  exact ⟨ret_bool (by rw [HSH.out,e1,e2,e3,e4,e5,e6];rfl),HB0.out⟩
end Go.Proofs.Ytkcfhciffdnmmaa
namespace Go.Proofs.Ytkcfhciffdnmmaa
set_option linter.unusedSimpArgs false
set_option linter.unusedVariables false
open Go.RowKit
def St.bad (x:St):Bool:=decide (x.f < 0)||decide (x.t < x.f)||decide (1073741824 < x.t)||decide (20000 < (x.sl.length:Int))||decide (20000 < (x.sets.length:Int))
def St.gap (x:St):Bool:=x.gf != 0||x.gt != 0||x.ins != 0
def St.mkd (x:St):Bool:=x.mark != 0||x.vl != 0
def St.inGap (x:St):Bool:=decide (x.f≤x.gf)&&decide (x.gf≤x.gt)&&decide (x.gt≤x.t)&&decide (0≤x.ins)&&decide (x.ins≤(x.sl.length:Int))
def St.shape (x:St):Bool:=!x.bad&&(
 if x.k == 1 then !x.gap&&!x.mkd&&((x.sets.length:Int) == 0)
 else if x.k == 2 then x.inGap&&!x.mkd&&((x.sets.length:Int) == 0)
 else if x.k == 3||x.k == 4 then !x.gap&&((x.sl.length:Int) == 0)&&((x.sets.length:Int) == 0)
 else if x.k == 5 then !x.gap&&!x.mkd&&((x.sl.length:Int) == 0)&&((x.sets.length:Int) == x.t - x.f)
 else false)
set_option maxRecDepth 100000 in
set_option maxHeartbeats 4000000 in
theorem Shape25_any (x:Stp) (w:World) (h1:x.v.sl.length=x.n1) (h2:x.v.sets.length=x.n2) (b1:x.n1≤1000000) (b2:x.n2≤1000000) :
  Calls Try.prog 29 #[.agg x.cells.toArray] w fun e w'=>e=.returned (.bool x.v.shape)∧Below w.heap.size w w':=by
 obtain ⟨⟨k,f,t,gf,gt,ins,mark,vl,sl,sets⟩,a1,n1,c1,a2,n2,c2⟩:=x
 simp only at h1 h2 b1 b2
 subst h1;subst h2
 simp only [Stp.cells]
 obtain ⟨n1,hn1⟩:∃ n,sl.length=n:=⟨_,rfl⟩
 obtain ⟨n2,hn2⟩:∃ n,sets.length=n:=⟨_,rfl⟩
 have HB0:Hid (∀ d1,Below w.heap.size w (w.alloc (.cells d1 26))):=fun d1=>(Below.refl _ w).alloc (Nat.le_refl _) _
 obtain ⟨X,hX⟩:∃ X:St,(⟨k,f,t,gf,gt,ins,mark,vl,sl,sets⟩:St)=X:=⟨_,rfl⟩
 have HBAD:Hid (X.bad=(decide (f < 0)||decide (t < f)||decide (1073741824 < t)||decide (20000 < (n1:Int))||decide (20000 < (n2:Int)))):=by
  subst hX;show St.bad _=_;simp only [St.bad,hn1,hn2]
 have HGAP:Hid (X.gap=(gf != 0||gt != 0||ins != 0)):=by subst hX;rfl
 have HMK:Hid (X.mkd=(mark != 0||vl != 0)):=by subst hX;rfl
 have HING:Hid (X.inGap=(decide (f≤gf)&&decide (gf≤gt)&&decide (gt≤t)&&decide (0≤ins)&&decide (ins≤(n1:Int)))):=by
  subst hX;show St.inGap _=_;simp only [St.inGap,hn1]
 have HSH:Hid (X.shape=(!X.bad&&(
   if k == 1 then !X.gap&&!X.mkd&&((n2:Int) == 0)
   else if k == 2 then X.inGap&&!X.mkd&&((n2:Int) == 0)
   else if k == 3||k == 4 then !X.gap&&((n1:Int) == 0)&&((n2:Int) == 0)
   else if k == 5 then !X.gap&&!X.mkd&&((n1:Int) == 0)&&((n2:Int) == t - f)
   else false))):=by subst hX;subst hn1;subst hn2;rfl
 rw [hn1,hn2]
 rw [hn1] at b1
 rw [hn2] at b2
 rw [hX]
 clear hX hn1 hn2
 obtain ⟨bad,hbad⟩:∃ b,X.bad=b:=⟨_,rfl⟩
 obtain ⟨gap,hgap⟩:∃ b,X.gap=b:=⟨_,rfl⟩
 obtain ⟨mk,hmk⟩:∃ b,X.mkd=b:=⟨_,rfl⟩
 obtain ⟨ing,hing⟩:∃ b,X.inGap=b:=⟨_,rfl⟩
 obtain ⟨sh,hsh⟩:∃ b,X.shape=b:=⟨_,rfl⟩
 rw [hbad] at HBAD HSH
 rw [hgap] at HGAP HSH
 rw [hmk] at HMK HSH
 rw [hing] at HING HSH
 rw [hsh] at HSH ⊢
 clear hbad hgap hmk hing hsh
 go_enter Try.func29,Try.ntmps29
 go_upto_region 1 with fail
 go_cut [32] (fun v wx=>v=.bool bad∧w.alloc (.cells #[.int .i64 k,.int .i64 f,.int .i64 t,.int .i64 gf,.int .i64 gt,.int .i64 ins,.int .i64 mark,.int .i64 vl,.slice a1 n1 c1,.slice a2 n2 c2] 26)=wx)
 case first =>
  cases e1:decide (f < 0)
  case true =>
   go_wp2
   go_meet
   case rel=>exact ⟨by rw [HBAD.out,e1];rfl,rfl⟩
  cases e2:decide (t < f)
  case true =>
   go_wp2
   go_meet
   case rel=>exact ⟨by rw [HBAD.out,e1,e2];rfl,rfl⟩
  cases e3:decide (1073741824 < t)
  case true =>
   go_wp2
   go_meet
   case rel=>exact ⟨by rw [HBAD.out,e1,e2,e3];rfl,rfl⟩
  cases e4:decide (20000 < (n1:Int))
  case true =>
   go_wp2
   go_meet
   case rel=>exact ⟨by rw [HBAD.out,e1,e2,e3,e4];rfl,rfl⟩
  cases e5:decide (20000 < (n2:Int))
  case true =>
   go_wp2
   go_meet
   case rel=>exact ⟨by rw [HBAD.out,e1,e2,e3,e4,e5];rfl,rfl⟩
  go_wp2
  go_meet
  case rel=>exact ⟨by rw [HBAD.out,e1,e2,e3,e4,e5];rfl,rfl⟩
 case rest =>
  obtain ⟨rfl,rfl⟩:=hcut
  cases bad
  case true =>
   go_wp2
   go_ret
   exact ⟨ret_bool (by rw [HSH.out];rfl),HB0.out _⟩
  have hwr:IntKind.i64.wrap (t - f)=t - f:=by
   have:=HBAD.out
   simp at this
   rw [IntKind.wrap_i64];omega
  go_upto_region 3 with fail
  go_cut [3] (fun v wx=>v=.bool gap∧w.alloc (.cells #[.int .i64 k,.int .i64 f,.int .i64 t,.int .i64 gf,.int .i64 gt,.int .i64 ins,.int .i64 mark,.int .i64 vl,.slice a1 n1 c1,.slice a2 n2 c2] 26)=wx)
  case first =>
   cases e1:(gf != 0)
   case true =>
    go_wp2
    go_meet
    case rel=>exact ⟨by rw [HGAP.out,e1];rfl,rfl⟩
   cases e2:(gt != 0)
   case true =>
    go_wp2
    go_meet
    case rel=>exact ⟨by rw [HGAP.out,e1,e2];rfl,rfl⟩
   cases e3:(ins != 0)
   case true =>
    go_wp2
    go_meet
    case rel=>exact ⟨by rw [HGAP.out,e1,e2,e3];rfl,rfl⟩
   go_wp2
   go_meet
   case rel=>exact ⟨by rw [HGAP.out,e1,e2,e3];rfl,rfl⟩
  case rest =>
   obtain ⟨rfl,rfl⟩:=hcut
   go_upto_region 4 with fail
   go_cut [4] (fun v wx=>v=.bool mk∧w.alloc (.cells #[.int .i64 k,.int .i64 f,.int .i64 t,.int .i64 gf,.int .i64 gt,.int .i64 ins,.int .i64 mark,.int .i64 vl,.slice a1 n1 c1,.slice a2 n2 c2] 26)=wx)
   case first =>
    cases e1:(mark != 0)
    case true =>
     go_wp2
     go_meet
     case rel=>exact ⟨by rw [HMK.out,e1];rfl,rfl⟩
    cases e2:(vl != 0)
    case true =>
     go_wp2
     go_meet
     case rel=>exact ⟨by rw [HMK.out,e1,e2];rfl,rfl⟩
    go_wp2
    go_meet
    case rel=>exact ⟨by rw [HMK.out,e1,e2];rfl,rfl⟩
   case rest =>
    obtain ⟨rfl,rfl⟩:=hcut
    cases k1:(k == 1)
    case true =>
     cases gap
     case true =>
      go_wp2
      go_ret
      exact ⟨ret_bool (by rw [HSH.out,k1];rfl),HB0.out _⟩
     cases mk
     case true =>
      go_wp2
      go_ret
      exact ⟨ret_bool (by rw [HSH.out,k1];rfl),HB0.out _⟩
     cases qe1:((n2:Int) == 0)
     case false =>
      go_wp2
      go_ret
      exact ⟨ret_bool (by rw [HSH.out,k1,qe1];rfl),HB0.out _⟩
     go_wp2
     go_ret
     exact ⟨ret_bool (by rw [HSH.out,k1,qe1];rfl),HB0.out _⟩
    cases k2:(k == 2)
    case true =>
     go_upto_region 9 with fail
     go_cut [5] (fun v wx=>v=.bool ing∧w.alloc (.cells #[.int .i64 k,.int .i64 f,.int .i64 t,.int .i64 gf,.int .i64 gt,.int .i64 ins,.int .i64 mark,.int .i64 vl,.slice a1 n1 c1,.slice a2 n2 c2] 26)=wx)
     case first =>
      cases e1:decide (f≤gf)
      case false =>
       go_wp2
       go_meet
       case rel=>exact ⟨by rw [HING.out,e1];rfl,rfl⟩
      cases e2:decide (gf≤gt)
      case false =>
       go_wp2
       go_meet
       case rel=>exact ⟨by rw [HING.out,e1,e2];rfl,rfl⟩
      cases e3:decide (gt≤t)
      case false =>
       go_wp2
       go_meet
       case rel=>exact ⟨by rw [HING.out,e1,e2,e3];rfl,rfl⟩
      cases e4:decide (0≤ins)
      case false =>
       go_wp2
       go_meet
       case rel=>exact ⟨by rw [HING.out,e1,e2,e3,e4];rfl,rfl⟩
      cases e5:decide (ins≤(n1:Int))
      case false =>
       go_wp2
       go_meet
       case rel=>exact ⟨by rw [HING.out,e1,e2,e3,e4,e5];rfl,rfl⟩
      go_wp2
      go_meet
      case rel=>exact ⟨by rw [HING.out,e1,e2,e3,e4,e5];rfl,rfl⟩
     case rest =>
      obtain ⟨rfl,rfl⟩:=hcut
      cases ing
      case false =>
       go_wp2
       go_ret
       exact ⟨ret_bool (by rw [HSH.out,k1,k2];rfl),HB0.out _⟩
      cases mk
      case true =>
       go_wp2
       go_ret
       exact ⟨ret_bool (by rw [HSH.out,k1,k2];rfl),HB0.out _⟩
      cases qe1:((n2:Int) == 0)
      case false =>
       go_wp2
       go_ret
       exact ⟨ret_bool (by rw [HSH.out,k1,k2,qe1];rfl),HB0.out _⟩
      go_wp2
      go_ret
      exact ⟨ret_bool (by rw [HSH.out,k1,k2,qe1];rfl),HB0.out _⟩
    cases k3:(k == 3)
    case true =>
     cases gap
     case true =>
      go_wp2
      go_ret
      exact ⟨ret_bool (by rw [HSH.out,k1,k2,k3];rfl),HB0.out _⟩
     cases qe1:((n1:Int) == 0)
     case false =>
      go_wp2
      go_ret
      exact ⟨ret_bool (by rw [HSH.out,k1,k2,k3,qe1];rfl),HB0.out _⟩
     cases qe2:((n2:Int) == 0)
     case false =>
      go_wp2
      go_ret
      exact ⟨ret_bool (by rw [HSH.out,k1,k2,k3,qe1,qe2];rfl),HB0.out _⟩
     go_wp2
     go_ret
     exact ⟨ret_bool (by rw [HSH.out,k1,k2,k3,qe1,qe2];rfl),HB0.out _⟩
    cases k4:(k == 4)
    case true =>
     cases gap
     case true =>
      go_wp2
      go_ret
      exact ⟨ret_bool (by rw [HSH.out,k1,k2,k3,k4];rfl),HB0.out _⟩
     cases qe1:((n1:Int) == 0)
     case false =>
      go_wp2
      go_ret
      exact ⟨ret_bool (by rw [HSH.out,k1,k2,k3,k4,qe1];rfl),HB0.out _⟩
     cases qe2:((n2:Int) == 0)
     case false =>
      go_wp2
      go_ret
      exact ⟨ret_bool (by rw [HSH.out,k1,k2,k3,k4,qe1,qe2];rfl),HB0.out _⟩
     go_wp2
     go_ret
     exact ⟨ret_bool (by rw [HSH.out,k1,k2,k3,k4,qe1,qe2];rfl),HB0.out _⟩
    cases k5:(k == 5)
    case true =>
     cases gap
     case true =>
      go_wp2
      go_ret
      exact ⟨ret_bool (by rw [HSH.out,k1,k2,k3,k4,k5];rfl),HB0.out _⟩
     cases mk
     case true =>
      go_wp2
      go_ret
      exact ⟨ret_bool (by rw [HSH.out,k1,k2,k3,k4,k5];rfl),HB0.out _⟩
     cases qe1:((n1:Int) == 0)
     case false =>
      go_wp2
      go_ret
      exact ⟨ret_bool (by rw [HSH.out,k1,k2,k3,k4,k5,qe1];rfl),HB0.out _⟩
     cases qe2:((n2:Int) == t - f)
     case false =>
      go_wp2
      go_ret
      exact ⟨ret_bool (by rw [HSH.out,k1,k2,k3,k4,k5,qe1,qe2];rfl),HB0.out _⟩
     go_wp2
     go_ret
     exact ⟨ret_bool (by rw [HSH.out,k1,k2,k3,k4,k5,qe1,qe2];rfl),HB0.out _⟩
    go_wp2
    go_ret
    exact ⟨ret_bool (by rw [HSH.out,k1,k2,k3,k4,k5];rfl),HB0.out _⟩
set_option linter.unnecessarySimpa false
attribute [local go_sem ↓] run_load_step
attribute [local go_sem] rd_drewN rd_drew aggLoad_ptr aggRes_some Stp.cells_length build_stp
theorem run_m_splice (n:Nat) (v:Value) (w:World):(method (n+1) 129 v "stet/step.shape").run Try.prog w=.ok (91,v) w:=by kernel_rfl
theorem run_m_around (n:Nat) (v:Value) (w:World):(method (n+1) 130 v "stet/step.shape").run Try.prog w=.ok (98,v) w:=by kernel_rfl
theorem run_m_mark (n:Nat) (v:Value) (w:World):(method (n+1) 131 v "stet/step.shape").run Try.prog w=.ok (103,v) w:=by kernel_rfl
theorem run_m_remark (n:Nat) (v:Value) (w:World):(method (n+1) 132 v "stet/step.shape").run Try.prog w=.ok (108,v) w:=by kernel_rfl
attribute [local go_sem] run_m_splice run_m_around run_m_mark run_m_remark
set_option maxRecDepth 100000 in
set_option maxHeartbeats 4000000 in
theorem StepShape1 (x:Stp) (B:Nat) (w:World) (hx:x.Ok w B) (hB:B≤w.heap.size) (b1:x.n1≤1000000) (b2:x.n2≤1000000) (hk:x.v.k=1) :
  Calls Try.prog 48 #[.agg x.cells.toArray] w fun e w'=>e=.returned (.bool (decide (0≤x.v.f)&&decide (x.v.f≤x.v.t)&&decide (x.v.t≤1073741824)&&(decide (x.v=⟨x.v.k,x.v.f,x.v.t,0,0,0,0,0,x.v.sl,[]⟩)&&decide ((x.n1:Int)≤20000))))∧Below w.heap.size w w':=by
 have r0:rd (w.alloc (.cells x.cells.toArray 26)) ⟨w.heap.size,0,none⟩ 10=some x.cells:=rd_alloc_new w x.cells 26 10 x.cells_length
 have HB0:Hid (Below w.heap.size w (w.alloc (.cells x.cells.toArray 26))):=(Below.refl _ w).alloc (Nat.le_refl _) _
 have c1:(w.alloc (.cells x.cells.toArray 26)).cell? ⟨w.heap.size,1,none⟩=some (.int .i64 x.v.f):=by
  have:=(rd_cell r0).2 1 (by omega)
  simpa [Addr.add,Stp.cells] using this
 have c2:(w.alloc (.cells x.cells.toArray 26)).cell? ⟨w.heap.size,2,none⟩=some (.int .i64 x.v.t):=by
  have:=(rd_cell r0).2 2 (by omega)
  simpa [Addr.add,Stp.cells] using this
 have HO:=Lib.hid (StepOf1 x (w.alloc (.cells x.cells.toArray 26)) hk)
 have KB:Hid (∀ w1,Below (w.alloc (.cells x.cells.toArray 26)).heap.size (w.alloc (.cells x.cells.toArray 26)) w1→Below w.heap.size w w1):=fun w1 hb=>HB0.out.trans (hb.mono HB0.out.size)
 have KEEP:Hid (∀ w1,Below (w.alloc (.cells x.cells.toArray 26)).heap.size (w.alloc (.cells x.cells.toArray 26)) w1→∀ i v,(w.alloc (.cells x.cells.toArray 26)).cell? ⟨w.heap.size,i,none⟩=some v→w1.cell? ⟨w.heap.size,i,none⟩=some v):=fun w1 hb i v hv=>by
  rw [hb.cell (p:=⟨w.heap.size,i,none⟩) (by simp),hv]
 have KT:Hid (∀ w1 w2,Below w.heap.size w w1→Below w1.heap.size w1 w2→Below w.heap.size w w2):=fun w1 w2 h1 h2=>h1.trans (h2.mono h1.size)
 have HK:Hid (∀ w',Below w.heap.size w w'→decide (0≤x.v.f)=true→decide (x.v.f≤x.v.t)=true→decide (x.v.t≤1073741824)=true→Calls Try.prog 91 #[.agg x.cells.toArray] w' fun e w''=>e=.returned (.bool (decide (x.v=⟨x.v.k,x.v.f,x.v.t,0,0,0,0,0,x.v.sl,[]⟩)&&decide ((x.n1:Int)≤20000)))∧Below w'.heap.size w' w''):=fun w' hb _ _ _=>SpliceShape x B w' (hx.keep hB hb) (Nat.le_trans hB hb.size) b1 b2
 obtain ⟨kb,hkb⟩:∃ b,(decide (x.v=⟨x.v.k,x.v.f,x.v.t,0,0,0,0,0,x.v.sl,[]⟩)&&decide ((x.n1:Int)≤20000))=b:=⟨_,rfl⟩
 rw [hkb] at HK ⊢
 clear hkb hk
 cases e1:decide (0≤x.v.f)
 case false =>
  go_enter Try.func48,Try.ntmps48
  go_wp2_with (first | (go_at_call 62;refine HO.out.mono ?_;rintro e w1 ⟨rfl,hb1⟩;have HB1:=Lib.hid (KB.out _ hb1);have HKP:=KEEP.out _ hb1;have k1:=HKP 1 _ c1;have k2:=HKP 2 _ c2;clear HKP hb1) | fail)
  go_ret
  exact ⟨rfl,HB1.out⟩
 cases e2:decide (x.v.f≤x.v.t)
 case false =>
  go_enter Try.func48,Try.ntmps48
  go_wp2_with (first | (go_at_call 62;refine HO.out.mono ?_;rintro e w1 ⟨rfl,hb1⟩;have HB1:=Lib.hid (KB.out _ hb1);have HKP:=KEEP.out _ hb1;have k1:=HKP 1 _ c1;have k2:=HKP 2 _ c2;clear HKP hb1) | fail)
  go_ret
  exact ⟨rfl,HB1.out⟩
 cases e3:decide (x.v.t≤1073741824)
 case false =>
  go_enter Try.func48,Try.ntmps48
  go_wp2_with (first | (go_at_call 62;refine HO.out.mono ?_;rintro e w1 ⟨rfl,hb1⟩;have HB1:=Lib.hid (KB.out _ hb1);have HKP:=KEEP.out _ hb1;have k1:=HKP 1 _ c1;have k2:=HKP 2 _ c2;clear HKP hb1) | fail)
  go_ret
  exact ⟨rfl,HB1.out⟩
 go_enter Try.func48,Try.ntmps48
 go_wp2_with (first | (go_at_call 62;refine HO.out.mono ?_;rintro e w1 ⟨rfl,hb1⟩;have HB1:=Lib.hid (KB.out _ hb1);have HKP:=KEEP.out _ hb1;have k1:=HKP 1 _ c1;have k2:=HKP 2 _ c2;clear HKP hb1) | fail)
 refine (HK.out _ HB1.out e1 e2 e3).mono ?_
 rintro e w2 ⟨rfl,hb2⟩
 have HB2:=Lib.hid (KT.out _ _ HB1.out hb2)
 clear hb2
 go_wp2_with fail
 go_ret
 exact ⟨rfl,HB2.out⟩
set_option maxRecDepth 100000 in
set_option maxHeartbeats 4000000 in
theorem StepShape2 (x:Stp) (B:Nat) (w:World) (hx:x.Ok w B) (hB:B≤w.heap.size) (b1:x.n1≤1000000) (b2:x.n2≤1000000) (hk:x.v.k=2) :
  Calls Try.prog 48 #[.agg x.cells.toArray] w fun e w'=>e=.returned (.bool (decide (0≤x.v.f)&&decide (x.v.f≤x.v.t)&&decide (x.v.t≤1073741824)&&(decide (x.v.f≤x.v.gf)&&decide (x.v.gf≤x.v.gt)&&decide (x.v.gt≤x.v.t)&&decide (0≤x.v.ins)&&decide (x.v.ins≤(x.n1:Int))&&decide ((x.n1:Int)≤20000)&&(x.v.mark == 0)&&(x.v.vl == 0)&&((x.n2:Int) == 0))))∧Below w.heap.size w w':=by
 have r0:rd (w.alloc (.cells x.cells.toArray 26)) ⟨w.heap.size,0,none⟩ 10=some x.cells:=rd_alloc_new w x.cells 26 10 x.cells_length
 have HB0:Hid (Below w.heap.size w (w.alloc (.cells x.cells.toArray 26))):=(Below.refl _ w).alloc (Nat.le_refl _) _
 have c1:(w.alloc (.cells x.cells.toArray 26)).cell? ⟨w.heap.size,1,none⟩=some (.int .i64 x.v.f):=by
  have:=(rd_cell r0).2 1 (by omega)
  simpa [Addr.add,Stp.cells] using this
 have c2:(w.alloc (.cells x.cells.toArray 26)).cell? ⟨w.heap.size,2,none⟩=some (.int .i64 x.v.t):=by
  have:=(rd_cell r0).2 2 (by omega)
  simpa [Addr.add,Stp.cells] using this
 have HO:=Lib.hid (StepOf2 x (w.alloc (.cells x.cells.toArray 26)) hk)
 have KB:Hid (∀ w1,Below (w.alloc (.cells x.cells.toArray 26)).heap.size (w.alloc (.cells x.cells.toArray 26)) w1→Below w.heap.size w w1):=fun w1 hb=>HB0.out.trans (hb.mono HB0.out.size)
 have KEEP:Hid (∀ w1,Below (w.alloc (.cells x.cells.toArray 26)).heap.size (w.alloc (.cells x.cells.toArray 26)) w1→∀ i v,(w.alloc (.cells x.cells.toArray 26)).cell? ⟨w.heap.size,i,none⟩=some v→w1.cell? ⟨w.heap.size,i,none⟩=some v):=fun w1 hb i v hv=>by
  rw [hb.cell (p:=⟨w.heap.size,i,none⟩) (by simp),hv]
 have KT:Hid (∀ w1 w2,Below w.heap.size w w1→Below w1.heap.size w1 w2→Below w.heap.size w w2):=fun w1 w2 h1 h2=>h1.trans (h2.mono h1.size)
 have HK:Hid (∀ w',Below w.heap.size w w'→decide (0≤x.v.f)=true→decide (x.v.f≤x.v.t)=true→decide (x.v.t≤1073741824)=true→Calls Try.prog 98 #[.agg x.cells.toArray] w' fun e w''=>e=.returned (.bool (decide (x.v.f≤x.v.gf)&&decide (x.v.gf≤x.v.gt)&&decide (x.v.gt≤x.v.t)&&decide (0≤x.v.ins)&&decide (x.v.ins≤(x.n1:Int))&&decide ((x.n1:Int)≤20000)&&(x.v.mark == 0)&&(x.v.vl == 0)&&((x.n2:Int) == 0)))∧Below w'.heap.size w' w''):=fun w' hb _ _ _=>AroundShape x B w' (hx.keep hB hb) (Nat.le_trans hB hb.size) b1 b2
 obtain ⟨kb,hkb⟩:∃ b,(decide (x.v.f≤x.v.gf)&&decide (x.v.gf≤x.v.gt)&&decide (x.v.gt≤x.v.t)&&decide (0≤x.v.ins)&&decide (x.v.ins≤(x.n1:Int))&&decide ((x.n1:Int)≤20000)&&(x.v.mark == 0)&&(x.v.vl == 0)&&((x.n2:Int) == 0))=b:=⟨_,rfl⟩
 rw [hkb] at HK ⊢
 clear hkb hk
 cases e1:decide (0≤x.v.f)
 case false =>
  go_enter Try.func48,Try.ntmps48
  go_wp2_with (first | (go_at_call 62;refine HO.out.mono ?_;rintro e w1 ⟨rfl,hb1⟩;have HB1:=Lib.hid (KB.out _ hb1);have HKP:=KEEP.out _ hb1;have k1:=HKP 1 _ c1;have k2:=HKP 2 _ c2;clear HKP hb1) | fail)
  go_ret
  exact ⟨rfl,HB1.out⟩
 cases e2:decide (x.v.f≤x.v.t)
 case false =>
  go_enter Try.func48,Try.ntmps48
  go_wp2_with (first | (go_at_call 62;refine HO.out.mono ?_;rintro e w1 ⟨rfl,hb1⟩;have HB1:=Lib.hid (KB.out _ hb1);have HKP:=KEEP.out _ hb1;have k1:=HKP 1 _ c1;have k2:=HKP 2 _ c2;clear HKP hb1) | fail)
  go_ret
  exact ⟨rfl,HB1.out⟩
 cases e3:decide (x.v.t≤1073741824)
 case false =>
  go_enter Try.func48,Try.ntmps48
  go_wp2_with (first | (go_at_call 62;refine HO.out.mono ?_;rintro e w1 ⟨rfl,hb1⟩;have HB1:=Lib.hid (KB.out _ hb1);have HKP:=KEEP.out _ hb1;have k1:=HKP 1 _ c1;have k2:=HKP 2 _ c2;clear HKP hb1) | fail)
  go_ret
  exact ⟨rfl,HB1.out⟩
 go_enter Try.func48,Try.ntmps48
 go_wp2_with (first | (go_at_call 62;refine HO.out.mono ?_;rintro e w1 ⟨rfl,hb1⟩;have HB1:=Lib.hid (KB.out _ hb1);have HKP:=KEEP.out _ hb1;have k1:=HKP 1 _ c1;have k2:=HKP 2 _ c2;clear HKP hb1) | fail)
 refine (HK.out _ HB1.out e1 e2 e3).mono ?_
 rintro e w2 ⟨rfl,hb2⟩
 have HB2:=Lib.hid (KT.out _ _ HB1.out hb2)
 clear hb2
 go_wp2_with fail
 go_ret
 exact ⟨rfl,HB2.out⟩
set_option maxRecDepth 100000 in
set_option maxHeartbeats 4000000 in
theorem StepShape3 (x:Stp) (B:Nat) (w:World) (hx:x.Ok w B) (hB:B≤w.heap.size) (b1:x.n1≤1000000) (b2:x.n2≤1000000) (hk:x.v.k=3) :
  Calls Try.prog 48 #[.agg x.cells.toArray] w fun e w'=>e=.returned (.bool (decide (0≤x.v.f)&&decide (x.v.f≤x.v.t)&&decide (x.v.t≤1073741824)&&(decide (x.v=⟨x.v.k,x.v.f,x.v.t,0,0,0,x.v.mark,x.v.vl,[],[]⟩))))∧Below w.heap.size w w':=by
 have r0:rd (w.alloc (.cells x.cells.toArray 26)) ⟨w.heap.size,0,none⟩ 10=some x.cells:=rd_alloc_new w x.cells 26 10 x.cells_length
 have HB0:Hid (Below w.heap.size w (w.alloc (.cells x.cells.toArray 26))):=(Below.refl _ w).alloc (Nat.le_refl _) _
 have c1:(w.alloc (.cells x.cells.toArray 26)).cell? ⟨w.heap.size,1,none⟩=some (.int .i64 x.v.f):=by
  have:=(rd_cell r0).2 1 (by omega)
  simpa [Addr.add,Stp.cells] using this
 have c2:(w.alloc (.cells x.cells.toArray 26)).cell? ⟨w.heap.size,2,none⟩=some (.int .i64 x.v.t):=by
  have:=(rd_cell r0).2 2 (by omega)
  simpa [Addr.add,Stp.cells] using this
 have HO:=Lib.hid (StepOf3 x (w.alloc (.cells x.cells.toArray 26)) hk)
 have KB:Hid (∀ w1,Below (w.alloc (.cells x.cells.toArray 26)).heap.size (w.alloc (.cells x.cells.toArray 26)) w1→Below w.heap.size w w1):=fun w1 hb=>HB0.out.trans (hb.mono HB0.out.size)
 have KEEP:Hid (∀ w1,Below (w.alloc (.cells x.cells.toArray 26)).heap.size (w.alloc (.cells x.cells.toArray 26)) w1→∀ i v,(w.alloc (.cells x.cells.toArray 26)).cell? ⟨w.heap.size,i,none⟩=some v→w1.cell? ⟨w.heap.size,i,none⟩=some v):=fun w1 hb i v hv=>by
  rw [hb.cell (p:=⟨w.heap.size,i,none⟩) (by simp),hv]
 have KT:Hid (∀ w1 w2,Below w.heap.size w w1→Below w1.heap.size w1 w2→Below w.heap.size w w2):=fun w1 w2 h1 h2=>h1.trans (h2.mono h1.size)
 have HK:Hid (∀ w',Below w.heap.size w w'→decide (0≤x.v.f)=true→decide (x.v.f≤x.v.t)=true→decide (x.v.t≤1073741824)=true→Calls Try.prog 103 #[.agg x.cells.toArray] w' fun e w''=>e=.returned (.bool (decide (x.v=⟨x.v.k,x.v.f,x.v.t,0,0,0,x.v.mark,x.v.vl,[],[]⟩)))∧Below w'.heap.size w' w''):=fun w' hb _ _ _=>MarkShape x B w' (hx.keep hB hb) (Nat.le_trans hB hb.size) b1 b2
 obtain ⟨kb,hkb⟩:∃ b,(decide (x.v=⟨x.v.k,x.v.f,x.v.t,0,0,0,x.v.mark,x.v.vl,[],[]⟩))=b:=⟨_,rfl⟩
 rw [hkb] at HK ⊢
 clear hkb hk
 cases e1:decide (0≤x.v.f)
 case false =>
  go_enter Try.func48,Try.ntmps48
  go_wp2_with (first | (go_at_call 62;refine HO.out.mono ?_;rintro e w1 ⟨rfl,hb1⟩;have HB1:=Lib.hid (KB.out _ hb1);have HKP:=KEEP.out _ hb1;have k1:=HKP 1 _ c1;have k2:=HKP 2 _ c2;clear HKP hb1) | fail)
  go_ret
  exact ⟨rfl,HB1.out⟩
 cases e2:decide (x.v.f≤x.v.t)
 case false =>
  go_enter Try.func48,Try.ntmps48
  go_wp2_with (first | (go_at_call 62;refine HO.out.mono ?_;rintro e w1 ⟨rfl,hb1⟩;have HB1:=Lib.hid (KB.out _ hb1);have HKP:=KEEP.out _ hb1;have k1:=HKP 1 _ c1;have k2:=HKP 2 _ c2;clear HKP hb1) | fail)
  go_ret
  exact ⟨rfl,HB1.out⟩
 cases e3:decide (x.v.t≤1073741824)
 case false =>
  go_enter Try.func48,Try.ntmps48
  go_wp2_with (first | (go_at_call 62;refine HO.out.mono ?_;rintro e w1 ⟨rfl,hb1⟩;have HB1:=Lib.hid (KB.out _ hb1);have HKP:=KEEP.out _ hb1;have k1:=HKP 1 _ c1;have k2:=HKP 2 _ c2;clear HKP hb1) | fail)
  go_ret
  exact ⟨rfl,HB1.out⟩
 go_enter Try.func48,Try.ntmps48
 go_wp2_with (first | (go_at_call 62;refine HO.out.mono ?_;rintro e w1 ⟨rfl,hb1⟩;have HB1:=Lib.hid (KB.out _ hb1);have HKP:=KEEP.out _ hb1;have k1:=HKP 1 _ c1;have k2:=HKP 2 _ c2;clear HKP hb1) | fail)
 refine (HK.out _ HB1.out e1 e2 e3).mono ?_
 rintro e w2 ⟨rfl,hb2⟩
 have HB2:=Lib.hid (KT.out _ _ HB1.out hb2)
 clear hb2
 go_wp2_with fail
 go_ret
 exact ⟨rfl,HB2.out⟩
set_option maxRecDepth 100000 in
set_option maxHeartbeats 4000000 in
theorem StepShape4 (x:Stp) (B:Nat) (w:World) (hx:x.Ok w B) (hB:B≤w.heap.size) (b1:x.n1≤1000000) (b2:x.n2≤1000000) (hk:x.v.k=4) :
  Calls Try.prog 48 #[.agg x.cells.toArray] w fun e w'=>e=.returned (.bool (decide (0≤x.v.f)&&decide (x.v.f≤x.v.t)&&decide (x.v.t≤1073741824)&&(decide (x.v=⟨x.v.k,x.v.f,x.v.t,0,0,0,x.v.mark,x.v.vl,[],[]⟩))))∧Below w.heap.size w w':=by
 have r0:rd (w.alloc (.cells x.cells.toArray 26)) ⟨w.heap.size,0,none⟩ 10=some x.cells:=rd_alloc_new w x.cells 26 10 x.cells_length
 have HB0:Hid (Below w.heap.size w (w.alloc (.cells x.cells.toArray 26))):=(Below.refl _ w).alloc (Nat.le_refl _) _
 have c1:(w.alloc (.cells x.cells.toArray 26)).cell? ⟨w.heap.size,1,none⟩=some (.int .i64 x.v.f):=by
  have:=(rd_cell r0).2 1 (by omega)
  simpa [Addr.add,Stp.cells] using this
 have c2:(w.alloc (.cells x.cells.toArray 26)).cell? ⟨w.heap.size,2,none⟩=some (.int .i64 x.v.t):=by
  have:=(rd_cell r0).2 2 (by omega)
  simpa [Addr.add,Stp.cells] using this
 have HO:=Lib.hid (StepOf4 x (w.alloc (.cells x.cells.toArray 26)) hk)
 have KB:Hid (∀ w1,Below (w.alloc (.cells x.cells.toArray 26)).heap.size (w.alloc (.cells x.cells.toArray 26)) w1→Below w.heap.size w w1):=fun w1 hb=>HB0.out.trans (hb.mono HB0.out.size)
 have KEEP:Hid (∀ w1,Below (w.alloc (.cells x.cells.toArray 26)).heap.size (w.alloc (.cells x.cells.toArray 26)) w1→∀ i v,(w.alloc (.cells x.cells.toArray 26)).cell? ⟨w.heap.size,i,none⟩=some v→w1.cell? ⟨w.heap.size,i,none⟩=some v):=fun w1 hb i v hv=>by
  rw [hb.cell (p:=⟨w.heap.size,i,none⟩) (by simp),hv]
 have KT:Hid (∀ w1 w2,Below w.heap.size w w1→Below w1.heap.size w1 w2→Below w.heap.size w w2):=fun w1 w2 h1 h2=>h1.trans (h2.mono h1.size)
 have HK:Hid (∀ w',Below w.heap.size w w'→decide (0≤x.v.f)=true→decide (x.v.f≤x.v.t)=true→decide (x.v.t≤1073741824)=true→Calls Try.prog 103 #[.agg x.cells.toArray] w' fun e w''=>e=.returned (.bool (decide (x.v=⟨x.v.k,x.v.f,x.v.t,0,0,0,x.v.mark,x.v.vl,[],[]⟩)))∧Below w'.heap.size w' w''):=fun w' hb _ _ _=>MarkShape x B w' (hx.keep hB hb) (Nat.le_trans hB hb.size) b1 b2
 obtain ⟨kb,hkb⟩:∃ b,(decide (x.v=⟨x.v.k,x.v.f,x.v.t,0,0,0,x.v.mark,x.v.vl,[],[]⟩))=b:=⟨_,rfl⟩
 rw [hkb] at HK ⊢
 clear hkb hk
 cases e1:decide (0≤x.v.f)
 case false =>
  go_enter Try.func48,Try.ntmps48
  go_wp2_with (first | (go_at_call 62;refine HO.out.mono ?_;rintro e w1 ⟨rfl,hb1⟩;have HB1:=Lib.hid (KB.out _ hb1);have HKP:=KEEP.out _ hb1;have k1:=HKP 1 _ c1;have k2:=HKP 2 _ c2;clear HKP hb1) | fail)
  go_ret
  exact ⟨rfl,HB1.out⟩
 cases e2:decide (x.v.f≤x.v.t)
 case false =>
  go_enter Try.func48,Try.ntmps48
  go_wp2_with (first | (go_at_call 62;refine HO.out.mono ?_;rintro e w1 ⟨rfl,hb1⟩;have HB1:=Lib.hid (KB.out _ hb1);have HKP:=KEEP.out _ hb1;have k1:=HKP 1 _ c1;have k2:=HKP 2 _ c2;clear HKP hb1) | fail)
  go_ret
  exact ⟨rfl,HB1.out⟩
 cases e3:decide (x.v.t≤1073741824)
 case false =>
  go_enter Try.func48,Try.ntmps48
  go_wp2_with (first | (go_at_call 62;refine HO.out.mono ?_;rintro e w1 ⟨rfl,hb1⟩;have HB1:=Lib.hid (KB.out _ hb1);have HKP:=KEEP.out _ hb1;have k1:=HKP 1 _ c1;have k2:=HKP 2 _ c2;clear HKP hb1) | fail)
  go_ret
  exact ⟨rfl,HB1.out⟩
 go_enter Try.func48,Try.ntmps48
 go_wp2_with (first | (go_at_call 62;refine HO.out.mono ?_;rintro e w1 ⟨rfl,hb1⟩;have HB1:=Lib.hid (KB.out _ hb1);have HKP:=KEEP.out _ hb1;have k1:=HKP 1 _ c1;have k2:=HKP 2 _ c2;clear HKP hb1) | fail)
 refine (HK.out _ HB1.out e1 e2 e3).mono ?_
 rintro e w2 ⟨rfl,hb2⟩
 have HB2:=Lib.hid (KT.out _ _ HB1.out hb2)
 clear hb2
 go_wp2_with fail
 go_ret
 exact ⟨rfl,HB2.out⟩
set_option maxRecDepth 100000 in
set_option maxHeartbeats 4000000 in
theorem StepShape5 (x:Stp) (B:Nat) (w:World) (hx:x.Ok w B) (hB:B≤w.heap.size) (b1:x.n1≤1000000) (b2:x.n2≤1000000) (hk:x.v.k=5) :
  Calls Try.prog 48 #[.agg x.cells.toArray] w fun e w'=>e=.returned (.bool (decide (0≤x.v.f)&&decide (x.v.f≤x.v.t)&&decide (x.v.t≤1073741824)&&(decide (x.v=⟨x.v.k,x.v.f,x.v.t,0,0,0,0,0,[],x.v.sets⟩)&&((x.n2:Int) == x.v.t - x.v.f)&&decide ((x.n2:Int)≤20000))))∧Below w.heap.size w w':=by
 have r0:rd (w.alloc (.cells x.cells.toArray 26)) ⟨w.heap.size,0,none⟩ 10=some x.cells:=rd_alloc_new w x.cells 26 10 x.cells_length
 have HB0:Hid (Below w.heap.size w (w.alloc (.cells x.cells.toArray 26))):=(Below.refl _ w).alloc (Nat.le_refl _) _
 have c1:(w.alloc (.cells x.cells.toArray 26)).cell? ⟨w.heap.size,1,none⟩=some (.int .i64 x.v.f):=by
  have:=(rd_cell r0).2 1 (by omega)
  simpa [Addr.add,Stp.cells] using this
 have c2:(w.alloc (.cells x.cells.toArray 26)).cell? ⟨w.heap.size,2,none⟩=some (.int .i64 x.v.t):=by
  have:=(rd_cell r0).2 2 (by omega)
  simpa [Addr.add,Stp.cells] using this
 have HO:=Lib.hid (StepOf5 x (w.alloc (.cells x.cells.toArray 26)) hk)
 have KB:Hid (∀ w1,Below (w.alloc (.cells x.cells.toArray 26)).heap.size (w.alloc (.cells x.cells.toArray 26)) w1→Below w.heap.size w w1):=fun w1 hb=>HB0.out.trans (hb.mono HB0.out.size)
 have KEEP:Hid (∀ w1,Below (w.alloc (.cells x.cells.toArray 26)).heap.size (w.alloc (.cells x.cells.toArray 26)) w1→∀ i v,(w.alloc (.cells x.cells.toArray 26)).cell? ⟨w.heap.size,i,none⟩=some v→w1.cell? ⟨w.heap.size,i,none⟩=some v):=fun w1 hb i v hv=>by
  rw [hb.cell (p:=⟨w.heap.size,i,none⟩) (by simp),hv]
 have KT:Hid (∀ w1 w2,Below w.heap.size w w1→Below w1.heap.size w1 w2→Below w.heap.size w w2):=fun w1 w2 h1 h2=>h1.trans (h2.mono h1.size)
 have HK:Hid (∀ w',Below w.heap.size w w'→decide (0≤x.v.f)=true→decide (x.v.f≤x.v.t)=true→decide (x.v.t≤1073741824)=true→Calls Try.prog 108 #[.agg x.cells.toArray] w' fun e w''=>e=.returned (.bool (decide (x.v=⟨x.v.k,x.v.f,x.v.t,0,0,0,0,0,[],x.v.sets⟩)&&((x.n2:Int) == x.v.t - x.v.f)&&decide ((x.n2:Int)≤20000)))∧Below w'.heap.size w' w''):=fun w' hb g1 g2 g3=>RemarkShape x B w' (hx.keep hB hb) (Nat.le_trans hB hb.size) b1 b2 (by simpa using g1) (by simpa using g2) (by simpa using g3)
 obtain ⟨kb,hkb⟩:∃ b,(decide (x.v=⟨x.v.k,x.v.f,x.v.t,0,0,0,0,0,[],x.v.sets⟩)&&((x.n2:Int) == x.v.t - x.v.f)&&decide ((x.n2:Int)≤20000))=b:=⟨_,rfl⟩
 rw [hkb] at HK ⊢
 clear hkb hk
 cases e1:decide (0≤x.v.f)
 case false =>
  go_enter Try.func48,Try.ntmps48
  go_wp2_with (first | (go_at_call 62;refine HO.out.mono ?_;rintro e w1 ⟨rfl,hb1⟩;have HB1:=Lib.hid (KB.out _ hb1);have HKP:=KEEP.out _ hb1;have k1:=HKP 1 _ c1;have k2:=HKP 2 _ c2;clear HKP hb1) | fail)
  go_ret
  exact ⟨rfl,HB1.out⟩
 cases e2:decide (x.v.f≤x.v.t)
 case false =>
  go_enter Try.func48,Try.ntmps48
  go_wp2_with (first | (go_at_call 62;refine HO.out.mono ?_;rintro e w1 ⟨rfl,hb1⟩;have HB1:=Lib.hid (KB.out _ hb1);have HKP:=KEEP.out _ hb1;have k1:=HKP 1 _ c1;have k2:=HKP 2 _ c2;clear HKP hb1) | fail)
  go_ret
  exact ⟨rfl,HB1.out⟩
 cases e3:decide (x.v.t≤1073741824)
 case false =>
  go_enter Try.func48,Try.ntmps48
  go_wp2_with (first | (go_at_call 62;refine HO.out.mono ?_;rintro e w1 ⟨rfl,hb1⟩;have HB1:=Lib.hid (KB.out _ hb1);have HKP:=KEEP.out _ hb1;have k1:=HKP 1 _ c1;have k2:=HKP 2 _ c2;clear HKP hb1) | fail)
  go_ret
  exact ⟨rfl,HB1.out⟩
 go_enter Try.func48,Try.ntmps48
 go_wp2_with (first | (go_at_call 62;refine HO.out.mono ?_;rintro e w1 ⟨rfl,hb1⟩;have HB1:=Lib.hid (KB.out _ hb1);have HKP:=KEEP.out _ hb1;have k1:=HKP 1 _ c1;have k2:=HKP 2 _ c2;clear HKP hb1) | fail)
 refine (HK.out _ HB1.out e1 e2 e3).mono ?_
 rintro e w2 ⟨rfl,hb2⟩
 have HB2:=Lib.hid (KT.out _ _ HB1.out hb2)
 clear hb2
 go_wp2_with fail
 go_ret
 exact ⟨rfl,HB2.out⟩
set_option maxRecDepth 100000 in
set_option maxHeartbeats 4000000 in
theorem StepShape0 (x:Stp) (B:Nat) (w:World) (hx:x.Ok w B) (hB:B≤w.heap.size) (b1:x.n1≤1000000) (b2:x.n2≤1000000) (h1:(x.v.k == 1)=false) (h2:(x.v.k == 2)=false) (h3:(x.v.k == 3)=false) (h4:(x.v.k == 4)=false) (h5:(x.v.k == 5)=false) :
  Calls Try.prog 48 #[.agg x.cells.toArray] w fun e w'=>e=.returned (.bool (false))∧Below w.heap.size w w':=by
 have r0:rd (w.alloc (.cells x.cells.toArray 26)) ⟨w.heap.size,0,none⟩ 10=some x.cells:=rd_alloc_new w x.cells 26 10 x.cells_length
 have HB0:Hid (Below w.heap.size w (w.alloc (.cells x.cells.toArray 26))):=(Below.refl _ w).alloc (Nat.le_refl _) _
 have c1:(w.alloc (.cells x.cells.toArray 26)).cell? ⟨w.heap.size,1,none⟩=some (.int .i64 x.v.f):=by
  have:=(rd_cell r0).2 1 (by omega)
  simpa [Addr.add,Stp.cells] using this
 have c2:(w.alloc (.cells x.cells.toArray 26)).cell? ⟨w.heap.size,2,none⟩=some (.int .i64 x.v.t):=by
  have:=(rd_cell r0).2 2 (by omega)
  simpa [Addr.add,Stp.cells] using this
 have HO:=Lib.hid (StepOf0 x (w.alloc (.cells x.cells.toArray 26)) h1 h2 h3 h4 h5)
 have KB:Hid (∀ w1,Below (w.alloc (.cells x.cells.toArray 26)).heap.size (w.alloc (.cells x.cells.toArray 26)) w1→Below w.heap.size w w1):=fun w1 hb=>HB0.out.trans (hb.mono HB0.out.size)
 have KEEP:Hid (∀ w1,Below (w.alloc (.cells x.cells.toArray 26)).heap.size (w.alloc (.cells x.cells.toArray 26)) w1→∀ i v,(w.alloc (.cells x.cells.toArray 26)).cell? ⟨w.heap.size,i,none⟩=some v→w1.cell? ⟨w.heap.size,i,none⟩=some v):=fun w1 hb i v hv=>by
  rw [hb.cell (p:=⟨w.heap.size,i,none⟩) (by simp),hv]
 have KT:Hid (∀ w1 w2,Below w.heap.size w w1→Below w1.heap.size w1 w2→Below w.heap.size w w2):=fun w1 w2 h1 h2=>h1.trans (h2.mono h1.size)
 clear h1 h2 h3 h4 h5
 go_enter Try.func48,Try.ntmps48
 go_wp2_with (first | (go_at_call 62;refine HO.out.mono ?_;rintro e w1 ⟨rfl,hb1⟩;have HB1:=Lib.hid (KB.out _ hb1);have HKP:=KEEP.out _ hb1;have k1:=HKP 1 _ c1;have k2:=HKP 2 _ c2;clear HKP hb1) | fail)
 go_ret
 exact ⟨rfl,HB1.out⟩
end Go.Proofs.Ytkcfhciffdnmmaa
namespace Go.Proofs.Ytkcfhciffdnmmaa
set_option linter.unusedSimpArgs false
set_option linter.unusedVariables false
open Go.RowKit
theorem shape_1 (v:St) (hk:v.k=1):(decide (0≤v.f)&&decide (v.f≤v.t)&&decide (v.t≤1073741824)&&(decide (v=⟨v.k,v.f,v.t,0,0,0,0,0,v.sl,[]⟩)&&decide ((v.sl.length:Int)≤20000)))=v.shape:=by
 obtain ⟨k,f,t,gf,gt,ins,mark,vl,sl,sets⟩:=v
 simp only at hk
 subst hk
 rw [Bool.eq_iff_iff]
 simp [St.shape,St.bad,St.gap,St.mkd,←List.length_eq_zero_iff]
 omega
theorem shape_2 (v:St) (hk:v.k=2):(decide (0≤v.f)&&decide (v.f≤v.t)&&decide (v.t≤1073741824)&&(decide (v.f≤v.gf)&&decide (v.gf≤v.gt)&&decide (v.gt≤v.t)&&decide (0≤v.ins)&&decide (v.ins≤(v.sl.length:Int))&&decide ((v.sl.length:Int)≤20000)&&(v.mark == 0)&&(v.vl == 0)&&((v.sets.length:Int) == 0)))=v.shape:=by
 obtain ⟨k,f,t,gf,gt,ins,mark,vl,sl,sets⟩:=v
 simp only at hk
 subst hk
 rw [Bool.eq_iff_iff]
 simp [St.shape,St.bad,St.gap,St.mkd,St.inGap,←List.length_eq_zero_iff]
 omega
theorem shape_34 (v:St) (hk:v.k=3∨v.k=4):(decide (0≤v.f)&&decide (v.f≤v.t)&&decide (v.t≤1073741824)&&(decide (v=⟨v.k,v.f,v.t,0,0,0,v.mark,v.vl,[],[]⟩)))=v.shape:=by
 obtain ⟨k,f,t,gf,gt,ins,mark,vl,sl,sets⟩:=v
 simp only at hk
 rw [Bool.eq_iff_iff]
 rcases hk with rfl | rfl <;> simp [St.shape,St.bad,St.gap,St.mkd,←List.length_eq_zero_iff] <;> omega
theorem shape_5 (v:St) (hk:v.k=5):(decide (0≤v.f)&&decide (v.f≤v.t)&&decide (v.t≤1073741824)&&(decide (v=⟨v.k,v.f,v.t,0,0,0,0,0,[],v.sets⟩)&&((v.sets.length:Int) == v.t - v.f)&&decide ((v.sets.length:Int)≤20000)))=v.shape:=by
 obtain ⟨k,f,t,gf,gt,ins,mark,vl,sl,sets⟩:=v
 simp only at hk
 subst hk
 rw [Bool.eq_iff_iff]
 simp [St.shape,St.bad,St.gap,St.mkd,←List.length_eq_zero_iff]
 omega
theorem shape_0 (v:St) (h1:(v.k == 1)=false) (h2:(v.k == 2)=false) (h3:(v.k == 3)=false) (h4:(v.k == 4)=false) (h5:(v.k == 5)=false):false=v.shape:=by
 simp [St.shape,h1,h2,h3,h4,h5]
theorem StepShape_any (x:Stp) (B:Nat) (w:World) (hx:x.Ok w B) (hB:B≤w.heap.size) (b1:x.n1≤1000000) (b2:x.n2≤1000000) :
  Calls Try.prog 48 #[.agg x.cells.toArray] w fun e w'=>e=.returned (.bool x.v.shape)∧Below w.heap.size w w':=by
 have e1:=hx.1
 have e2:=hx.2.1
 cases h1:(x.v.k == 1)
 case true =>
  have hk:x.v.k=1:=by simpa using h1
  have:=StepShape1 x B w hx hB b1 b2 hk
  rw [←e1,shape_1 x.v hk] at this
  exact this
 cases h2:(x.v.k == 2)
 case true =>
  have hk:x.v.k=2:=by simpa using h2
  have:=StepShape2 x B w hx hB b1 b2 hk
  rw [←e1,←e2,shape_2 x.v hk] at this
  exact this
 cases h3:(x.v.k == 3)
 case true =>
  have hk:x.v.k=3:=by simpa using h3
  have:=StepShape3 x B w hx hB b1 b2 hk
  rw [shape_34 x.v (.inl hk)] at this
  exact this
 cases h4:(x.v.k == 4)
 case true =>
  have hk:x.v.k=4:=by simpa using h4
  have:=StepShape4 x B w hx hB b1 b2 hk
  rw [shape_34 x.v (.inr hk)] at this
  exact this
 cases h5:(x.v.k == 5)
 case true =>
  have hk:x.v.k=5:=by simpa using h5
  have:=StepShape5 x B w hx hB b1 b2 hk
  rw [←e2,shape_5 x.v hk] at this
  exact this
 have:=StepShape0 x B w hx hB b1 b2 h1 h2 h3 h4 h5
 rw [shape_0 x.v h1 h2 h3 h4 h5] at this
 exact this
theorem Shape25_ok (x:Stp) (B:Nat) (w:World) (hx:x.Ok w B) (b1:x.n1≤1000000) (b2:x.n2≤1000000) :
  Calls Try.prog 29 #[.agg x.cells.toArray] w fun e w'=>e=.returned (.bool x.v.shape)∧Below w.heap.size w w':=Shape25_any x w hx.1 hx.2.1 b1 b2
def St.ahead (a b:St):St:=⟨1,a.f,a.t+b.t - b.f,0,0,0,0,0,a.sl++b.sl,[]⟩
def St.behind (a b:St):St:=⟨1,b.f,a.t,0,0,0,0,0,b.sl++a.sl,[]⟩
def St.same (a b:St):Bool:=!((a.mark != b.mark)||(a.vl != b.vl)||decide (b.t < a.f)||decide (a.t < b.f))
def St.marked (a b:St):St:=⟨a.k,if b.f < a.f then b.f else a.f,if a.t < b.t then b.t else a.t,0,0,0,a.mark,a.vl,[],[]⟩
def St.weld (a b:St):Option St :=
 if a.k=1 then (if a.f+a.sl.length=b.f then some (a.ahead b) else if b.t=a.f then some (a.behind b) else Option.none)
 else if a.k=3∨a.k=4 then (if a.same b=true then some (a.marked b) else Option.none)
 else Option.none
def St.two (a b:St):Option St:=if a.k=b.k∧a.shape=true∧b.shape=true then (match a.weld b with | some x=>if x.shape=true then some x else Option.none | Option.none=>Option.none) else Option.none
theorem shape_in {v:St} (h:v.shape=true):0≤v.f∧v.f≤v.t∧v.t≤1073741824∧v.sl.length≤20000∧v.sets.length≤20000:=by
 unfold St.shape at h
 rw [Bool.and_eq_true,Bool.not_eq_true'] at h
 have h:=h.1
 simp only [St.bad,Bool.or_eq_false_iff,decide_eq_false_iff_not] at h
 omega
set_option maxRecDepth 100000
@[reducible] def optV (o:Option St):HV:=match o with | Option.none=>t2 (stV St.none) (boolV false) | some s=>t2 (stV s) (boolV true)
theorem fz_optV {sh:List (Nat×HObj)} (o:Option St):Fz sh (optV o) (optV o):=by cases o <;> exact fz_t2 Frz.fz (.imm _)
instance (o:Option St):Frz (optV o):=⟨fz_optV o⟩
theorem shape_h (s:St) (h1:s.sl.length≤1000000) (h2:s.sets.length≤1000000):HPure Try.prog 48 [stV s] (boolV s.shape):=by
 refine ⟨⟨_,_,Try.func48,rfl,by kernel_rfl⟩,fun w F vs hF hr hw=>?_⟩
 obtain ⟨v,rfl,hv⟩:=rep1 hr
 obtain ⟨a,rfl,rfl,ha⟩:=stp_of hv
 refine (StepShape_any a _ w ha (Nat.le_refl _) (by rw [←ha.1];exact h1) (by rw [←ha.2.1];exact h2)).mono ?_
 rintro e w' ⟨rfl,hb⟩
 exact pure_imm hF hb
theorem shape25_h (s:St) (h1:s.sl.length≤1000000) (h2:s.sets.length≤1000000):HPure Try.prog 29 [stV s] (boolV s.shape):=by
 refine ⟨⟨_,_,Try.func29,rfl,by kernel_rfl⟩,fun w F vs hF hr hw=>?_⟩
 obtain ⟨v,rfl,hv⟩:=rep1 hr
 obtain ⟨a,rfl,rfl,ha⟩:=stp_of hv
 refine (Shape25_ok a _ w ha (by rw [←ha.1];exact h1) (by rw [←ha.2.1];exact h2)).mono ?_
 rintro e w' ⟨rfl,hb⟩
 exact pure_imm hF hb
end Go.Proofs.Ytkcfhciffdnmmaa
namespace Go.Proofs.Ytkcfhciffdnmmaa
set_option linter.unusedSimpArgs false
set_option linter.unusedVariables false
abbrev TF:=Int→Int→Plc×Int
def rowI (tl:TF) (f fr:Int):Nat→Nat→Bool→Bool×Bool
 | 0,i,bad=>(true,bad)
 | n+1,i,bad=>if (tl (f+i) 1).1.gone=true∨(tl (f+i) 1).1.pos≠fr+i then (false,bad||decide ((tl (f+i) 1).2≠0)) else rowI tl f fr n (i+1) (bad||decide ((tl (f+i) 1).2≠0))
def rowD (tl:TF) (f fr:Int) (n:Nat):Prop:=∀ i:Nat,i < n→(tl (f+i) 1).2=0∧(tl (f+i) 1).1.gone=false∧(tl (f+i) 1).1.pos=fr+i
theorem rowI_bad (tl:TF) (f fr:Int):∀ n i,(rowI tl f fr n i true).2=true
  | 0,i=>rfl
  | n + 1, i => by
    unfold rowI
    by_cases h:(tl (f+i) 1).1.gone=true∨(tl (f+i) 1).1.pos≠fr+i
    · rw [if_pos h];simp
    · rw [if_neg h,Bool.true_or];exact rowI_bad tl f fr n (i+1)
theorem rowI_iff (tl:TF) (f fr:Int):∀ n i,((rowI tl f fr n i false).1=true∧(rowI tl f fr n i false).2=false)↔∀ j:Nat,i≤j→j < i+n→(tl (f+j) 1).2=0∧(tl (f+j) 1).1.gone=false∧(tl (f+j) 1).1.pos=fr+j
  | 0,i=>by unfold rowI;exact ⟨fun _ j h1 h2=>absurd h2 (by omega),fun _=>⟨rfl,rfl⟩⟩
  | n + 1, i => by
    unfold rowI
    by_cases h:(tl (f+i) 1).1.gone=true∨(tl (f+i) 1).1.pos≠fr+i
    · rw [if_pos h]
      refine ⟨fun h'=>absurd h'.1 (by simp),fun h'=>?_⟩
      obtain ⟨_,h2,h3⟩:=h' i (Nat.le_refl _) (by omega)
      rcases h with h | h
      · rw [h2] at h;cases h
      · exact absurd h3 h
    · rw [if_neg h,Bool.false_or]
      obtain ⟨g1,g2⟩:=not_or.1 h
      have g2:=Classical.not_not.1 g2
      by_cases e:(tl (f+i) 1).2=0
      · rw [show decide ((tl (f+i) 1).2≠0)=false by simp [e],rowI_iff tl f fr n (i+1)]
        refine ⟨fun h' j h1 h2=>?_,fun h' j h1 h2=>h' j (by omega) (by omega)⟩
        by_cases ej:j=i
        · subst ej;exact ⟨e,by simpa using g1,g2⟩
        · exact h' j (by omega) (by omega)
      · rw [show decide ((tl (f+i) 1).2≠0)=true by simp [e]]
        refine ⟨fun h'=>?_,fun h'=>absurd (h' i (Nat.le_refl _) (by omega)).1 e⟩
        rw [rowI_bad] at h';cases h'.2
theorem rowD_iff (tl:TF) (f fr:Int) (n:Nat):((rowI tl f fr n 0 false).1=true∧(rowI tl f fr n 0 false).2=false)↔rowD tl f fr n:=by
 rw [rowI_iff]
 exact ⟨fun h i hi=>h i (Nat.zero_le _) (by omega),fun h j _ hj=>h j (by omega)⟩
def St.mv (x:St) (f t gf gt:Int):St:=⟨x.k,f,t,gf,gt,x.ins,x.mark,x.vl,x.sl,x.sets⟩
def kindV (tl:TF) (x o:St) (e:Int) (bad:Bool):Bool×St×Bool :=
 if x.k=2 then ((decide ((tl x.gf (-1)).1.pos≥o.f)&&decide ((tl x.gf (-1)).1.pos≤(tl x.gt 1).1.pos))&&decide ((tl x.gt 1).1.pos≤e),o.mv o.f o.t (tl x.gf (-1)).1.pos (tl x.gt 1).1.pos,(bad||decide ((tl x.gf (-1)).2≠0))||decide ((tl x.gt 1).2≠0))
 else if x.k=3∨x.k=4 then (decide (e > o.f),o,bad)
 else if x.k=5 then ((rowI tl x.f o.f (x.t - x.f).toNat 0 bad).1,o.mv o.f (o.f+x.t - x.f) o.gf o.gt,(rowI tl x.f o.f (x.t - x.f).toNat 0 bad).2)
 else (true,o,bad)
def gone2 (tl:TF) (x:St):Prop:=((tl x.f 1).2≠0∨(tl x.t (-1)).2≠0)∨((tl x.f 1).1.ins=true∧(tl x.t (-1)).1.ins=true)
instance (tl:TF) (x:St):Decidable (gone2 tl x):=by unfold gone2;infer_instance
def outV (tl:TF) (x:St):St:=x.mv (tl x.f 1).1.pos (if (tl x.t (-1)).1.pos > (tl x.f 1).1.pos then (tl x.t (-1)).1.pos else (tl x.f 1).1.pos) x.gf x.gt
def kV (tl:TF) (x:St):Bool×St×Bool:=kindV tl x (outV tl x) (tl x.t (-1)).1.pos false
def byV (tl:TF) (x:St):Option St :=
 if x.shape=true then (if gone2 tl x then none else if (kV tl x).1=true∧(kV tl x).2.2=false∧(kV tl x).2.1.shape=true then some (kV tl x).2.1 else none) else none
theorem byV_shape {tl:TF} {x:St} (h:¬ x.shape=true):byV tl x=none:=by unfold byV;rw [if_neg h]
theorem byV_gone {tl:TF} {x:St} (h:gone2 tl x):byV tl x=none:=by unfold byV;rw [if_pos h];split <;> rfl
theorem byV_no {tl:TF} {x:St} (h:¬ ((kV tl x).1=true∧(kV tl x).2.2=false∧(kV tl x).2.1.shape=true)):byV tl x=none:=by unfold byV;rw [if_neg h];split <;> (try split) <;> rfl
theorem byV_yes {tl:TF} {x:St} (h1:x.shape=true) (h2:¬ gone2 tl x) (h:(kV tl x).1=true∧(kV tl x).2.2=false∧(kV tl x).2.1.shape=true):byV tl x=some (kV tl x).2.1:=by unfold byV;rw [if_pos h1,if_neg h2,if_pos h]
theorem kV2 {tl:TF} {x:St} (hk:x.k=2):kV tl x=(((decide ((tl x.gf (-1)).1.pos≥(tl x.f 1).1.pos)&&decide ((tl x.gf (-1)).1.pos≤(tl x.gt 1).1.pos))&&decide ((tl x.gt 1).1.pos≤(tl x.t (-1)).1.pos)),(outV tl x).mv (outV tl x).f (outV tl x).t (tl x.gf (-1)).1.pos (tl x.gt 1).1.pos,(false||decide ((tl x.gf (-1)).2≠0))||decide ((tl x.gt 1).2≠0)):=by
 unfold kV kindV;rw [if_pos hk];rfl
theorem kV3 {tl:TF} {x:St} (hk:x.k=3∨x.k=4):kV tl x=(decide ((tl x.t (-1)).1.pos > (tl x.f 1).1.pos),outV tl x,false):=by
 unfold kV kindV;rw [if_neg (by omega),if_pos hk];rfl
theorem kV5 {tl:TF} {x:St} (hk:x.k=5):kV tl x=((rowI tl x.f (tl x.f 1).1.pos (x.t - x.f).toNat 0 false).1,(outV tl x).mv (outV tl x).f ((tl x.f 1).1.pos+x.t - x.f) x.gf x.gt,(rowI tl x.f (tl x.f 1).1.pos (x.t - x.f).toNat 0 false).2):=by
 unfold kV kindV;rw [if_neg (by omega),if_neg (by omega),if_pos hk];rfl
theorem kV1 {tl:TF} {x:St} (h2:¬ x.k=2) (h3:¬ (x.k=3∨x.k=4)) (h5:¬ x.k=5):kV tl x=(true,outV tl x,false):=by
 unfold kV kindV;rw [if_neg h2,if_neg h3,if_neg h5]
theorem gap_in {x:St} (h:x.shape=true) (k:x.k=2):x.f≤x.gf∧x.gf≤x.gt∧x.gt≤x.t:=by
 unfold St.shape at h
 rw [Bool.and_eq_true] at h
 have h:=h.2
 simp [k,St.inGap] at h
 omega
def overV (x:St) (m:List Rg):Option St:=if rightM m=true then byV (routeV [m] []) x else none
theorem rtok1 {m:List Rg} (hm:rightM m=true):RtOk [m] []:=⟨fun i hi=>by
 have:i < 1:=hi
 obtain rfl:i=0:=by omega
 exact hm,fun i k h=>by cases h⟩
def TlOk (tl:TF):Prop:=∀ p s,0≤p→p≤1099511627776→-4398046511104≤(tl p s).1.pos∧(tl p s).1.pos≤4398046511104
theorem goR_bd {L:List (List Rg)} {mir:List (Int×Int)} (hok:RtOk L mir) (side:Int):∀ n i (out:Plc),(-4398046511104≤out.pos∧out.pos≤4398046511104)→-4398046511104≤(goR L mir side n i out).1.pos∧(goR L mir side n i out).1.pos≤4398046511104
  | 0,i,out,h=>h
  | n + 1, i, out, h => by
    unfold goR
    by_cases hi:i < L.length
    · rw [if_pos hi]
      by_cases hp:out.pos < 0∨1099511627776 < out.pos
      · rw [if_pos hp];simp [plc0]
      · rw [if_neg hp]
        have hb:=tellV_bd (hok.1 i hi) (pos:=out.pos) (side:=side) (by omega)
        cases hr:recd L mir i (tellV (L.getD i []) out.pos side) with
        | none=>exact goR_bd hok side n (i+1) _ ⟨by show _≤(tellV _ _ _).pos;omega,by show (tellV _ _ _).pos≤_;omega⟩
        | some q =>
          refine goR_bd hok side n (q.1+1) _ ?_
          show _≤q.2∧q.2≤_
          unfold recd at hr
          split at hr
          · split at hr
            · obtain ⟨x,hx,rfl⟩:=Option.map_eq_some_iff.1 hr
              have:=recV_ge hx
              show _≤x∧x≤_
              omega
            · cases hr
          · cases hr
    · rw [if_neg hi];exact h
theorem tlok_route {L:List (List Rg)} {mir:List (Int×Int)} (hok:RtOk L mir):TlOk (routeV L mir):=fun p s h1 h2=>goR_bd hok s _ _ _ ⟨by show _≤p;omega,by show p≤_;omega⟩
end Go.Proofs.Ytkcfhciffdnmmaa
