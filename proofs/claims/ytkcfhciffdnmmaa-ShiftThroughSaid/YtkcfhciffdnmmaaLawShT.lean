/-
  The law ShiftThrough in the reader's words.
-/
import Derived.Test.YtkcfhciffdnmmaaTh2
import Derived.Test.YtkcfhciffdnmmaaSh5
import Derived.Test.YtkcfhciffdnmmaaHc
namespace Go.Proofs.Ytkcfhciffdnmmaa
set_option linter.unusedSimpArgs false
set_option linter.unusedVariables false
set_option maxRecDepth 100000
set_option maxHeartbeats 4000000
open Go.RowKit
structure Mp where
 m:List Rg
 of:Int
def mp0:Mp:=⟨[],0⟩
def mpF (x:Mp):Nat→HV
 | 0=>rgsV x.m
 | _=>intV x.of
@[reducible] def mpsLV (l:List Mp):HV:=.sl 2 l.length (fun i=>mpF (l.getD i mp0))
theorem fz_mpF {sh:List (Nat×HObj)} (x:Mp) (j:Nat):Fz sh (mpF x j) (mpF x j):=by
 unfold mpF;split
 ·exact Frz.fz
 ·exact .imm _
instance (x:Mp) (j:Nat):Frz (mpF x j):=⟨fz_mpF x j⟩
def mirC:Option Nat→HV
 | none=>.imm (.map none)
 | some g=>.mp 9103 g
def mirHp (v:Option Nat) (mir:List (Int×Int)):List (Nat×HObj):=match v with
 | none=>[]
 | some g=>[(9103,mirO g mir)]
theorem rtok_of {L:List (List Rg)} {mir:List (Int×Int)} (h1:∀ j,j < L.length→rightM (L.getD j [])=true) (h2:MirOk L.length mir):RtOk L mir:=⟨h1,fun i k h=>⟨(h2 i k h).2.1.1,(h2 i k h).2.1.2,(h2 i k h).2.2⟩⟩
theorem right_more {L:List (List Rg)} {m:List Rg} (h1:∀ j,j < L.length→rightM (L.getD j [])=true) (hm:rightM m=true):∀ j,j < (L++[m]).length→rightM ((L++[m]).getD j [])=true:=fun j hj=>by
 rw [List.length_append] at hj
 have hj:j < L.length+1:=hj
 by_cases e:j < L.length
 ·rw [List.getD_eq_getElem?_getD,List.getElem?_append_left e,←List.getD_eq_getElem?_getD];exact h1 j e
 ·obtain rfl:j=L.length:=by omega
  rw [List.getD_eq_getElem?_getD,List.getElem?_append_right (Nat.le_refl _),Nat.sub_self];exact hm
theorem hop_eql_nf {P:Program} {ov:Nat→Option HV} {g:Nat} {d:Option Tmp} {ty:TypeId} {pos:String} {af:Array Edge} {gd:Option (Nat×Bool)} {x y:Operand} {T yT:TypeId} (hT:∀ (w:World),(binOp .eql T .nilFunc .nilFunc).run P w=.ok (.bool true) w) (h1:ovl ov x=some (.imm .nilFunc)) (h2:ovl ov y=some (.imm .nilFunc)):HOp P ⟨d,.binOp .eql T x y yT,ty,pos,af,gd⟩ ov g [] (.imm (.bool true)) [] :=
 hop_pure fun w E ρ hr=>by
  have e1:=Rep.imm_inv (hr x _ (by simp [Op.operands]) h1)
  have e2:=Rep.imm_inv (hr y _ (by simp [Op.operands]) h2)
  exact ⟨.bool true,by simp [execOp,e1,e2,eqGuard,hT w],.imm _⟩
theorem byNil_h (s:St) (l1:s.sl.length≤20000) (l2:s.sets.length≤20000):HPure Try.prog 24 [stV s,.imm .nilFunc] (optQ none):=by
 refine hpure_of Try.func24 rfl kr _ _ _ rfl 79 rfl rfl (fun w F=>?_)
 refine srg fun N h1=>?_
 refine hm_1 2 (hop_box (id:=2) (sz:=10) rfl rfl rfl omx omx) rfl rfl pre0 rfl rfl (c':=1) rfl ?_
 refine hm_1 4 (hop_alloc (id:=4) (sz:=10) zc_26 rfl rfl omx omx) rfl rfl pre0 rfl rfl (c':=2) rfl ?_
 refine sa<|snl h1<|hw_seq fun Nh2 h2=>srg fun N h3=>sm ?_
 refine s0 (hop_eql_nf (fun w=>by kernel_rfl) rfl rfl) ?_
 refine sm ?_
 first
 | refine hq_g 13 2 12 false _ (fun hb=>hol_load ty_26 rfl (by first | exact Nat.le_of_ble_eq_true rfl | (simp at hb;first | omega | (dsimp only;omega) | (simp <;> omega)) | omega | (dsimp only;omega)) (by first | exact Nat.le_of_ble_eq_true rfl | (simp at hb;first | omega | (dsimp only;omega) | (simp <;> omega)) | omega | (dsimp only;omega)) (fun h=>(by first | rfl | cases h))) rfl rfl rfl rfl (pre1 rfl) rfl rfl rfl ?_
 | refine hq_g2 13 2 12 _ _ false _ (fun hb=>hol_load ty_26 rfl (by first | exact Nat.le_of_ble_eq_true rfl | (simp at hb;first | omega | (dsimp only;omega) | (simp <;> omega)) | omega | (dsimp only;omega)) (by first | exact Nat.le_of_ble_eq_true rfl | (simp at hb;first | omega | (dsimp only;omega) | (simp <;> omega)) | omega | (dsimp only;omega)) (fun h=>(by first | rfl | cases h))) rfl rfl rfl rfl (pre1 rfl) rfl rfl rfl ?_
 | refine stg 12 (fun hb=>hop_load_fp ty_26 rfl (by first | exact Nat.le_of_ble_eq_true rfl | (simp at hb;first | omega | (dsimp only;omega) | (simp <;> omega)) | omega | (dsimp only;omega)) (fun h=>(by first | rfl | cases h))) rfl rfl rfl rfl rfl ?_
 | refine sth 12 (fun hb=>hop_load_fp ty_26 rfl (by first | exact Nat.le_of_ble_eq_true rfl | (simp at hb;first | omega | (dsimp only;omega) | (simp <;> omega)) | omega | (dsimp only;omega)) (fun h=>(by first | rfl | cases h))) rfl rfl rfl rfl rfl ?_
 first
 | refine stg 12 (fun hb=>hop_call0 (xs:=[_]) (shape_h s (by omega) (by omega)) ⟨rfl,trivial⟩ ⟨(Fz.eq rfl),trivial⟩) rfl rfl rfl rfl rfl ?_
 | refine sth 12 (fun hb=>hop_call0 (xs:=[_]) (shape_h s (by omega) (by omega)) ⟨rfl,trivial⟩ ⟨(Fz.eq rfl),trivial⟩) rfl rfl rfl rfl rfl ?_
 first
 | refine stg 12 (fun hb=>hop_not rfl) rfl rfl rfl rfl rfl ?_
 | refine sth 12 (fun hb=>hop_not rfl) rfl rfl rfl rfl rfl ?_
 first
 | refine hq_p 16 (hstep_and _ _ rfl rfl rfl) rfl rfl rfl ?_
 | refine hq_p 16 (hstep_or _ _ rfl rfl rfl) rfl rfl rfl ?_
 | refine hq_p 16 (hstep_ite _ _ _ rfl rfl rfl) rfl rfl rfl ?_
 | refine hq_p 16 (hstep_pick _ _ _ _ rfl rfl rfl (fun _=>.refl _) (fun _=>.refl _)) rfl rfl rfl ?_
 refine nu ?_
 refine h3 _ ?_
 refine wc (fun hc0=>?_) (fun hc0=>?_)
 ·have hr0:=hc0;(try simp only [hcs,Int.reduceToNat] at hc0)
  refine srg fun N h4=>?_
  refine s0 (hop_build (hs:=[]) st_26 rfl rfl trivial) ?_
  first
  | refine hm_s1 (hol_storeW ty_26 rfl rfl rfl rfl) rfl rfl (pre1 rfl) (c':=3) rfl ?_
  | refine hm_s1 (hol_store ty_26 rfl rfl rfl rfl (by first | exact Nat.le_of_ble_eq_true rfl | omega | (dsimp only;omega) | (simp <;> omega)) (by first | exact Nat.le_of_ble_eq_true rfl | omega | (dsimp only;omega) | (simp <;> omega)) (by first | exact Nat.le_of_ble_eq_true rfl | omega | (dsimp only;omega) | (simp <;> omega))) rfl rfl (pre1 rfl) (c':=3) rfl ?_
  refine sa<|snl h4<|hw_ret<|hq_then_ret ?_
  refine hq_ret2 rfl (rvl_cell rfl rfl ty_26 rqc rfl rfl) (rval_tmp rfl) [] rfl pre0 ?_
  exact fz_t2 (fz_agg10 fzc fzc fzc fzc fzc fzc fzc fzc fzc fzc) (.imm _)
 have hr0:=hc0;(try simp only [hcs,Int.reduceToNat] at hc0)
 exfalso;simp at hr0
theorem thrNil_h (s:St):HPure Try.prog 15 [stV s,.imm (.pointer none)] (optQ none):=by
 refine hpure_of Try.func15 rfl kr _ _ _ rfl 15 rfl rfl (fun w F=>?_)
 refine srg fun N h1=>?_
 refine hm_1 2 (hop_box (id:=2) (sz:=10) rfl rfl rfl omx omx) rfl rfl pre0 rfl rfl (c':=1) rfl ?_
 refine hm_1 4 (hop_alloc (id:=4) (sz:=10) zc_26 rfl rfl omx omx) rfl rfl pre0 rfl rfl (c':=2) rfl ?_
 refine sa<|snl h1<|hw_seq fun Nh2 h2=>srg fun N h3=>sm ?_
 first
 | refine hq_ 7 (hop_eql_ptn (by kernel_rfl) rfl rfl) rfl rfl pre0 rfl rfl ?_
 | refine hq_ 7 (hop_eql_fpn (by kernel_rfl) rfl rfl) rfl rfl pre0 rfl rfl ?_
 | refine hq_ 7 (hop_eql_nnp (by kernel_rfl) rfl rfl) rfl rfl pre0 rfl rfl ?_
 | refine hq_ 7 (hop_eql_fp rfl rfl rfl) rfl rfl pre0 rfl rfl ?_
 | refine hq_ 7 (hop_eql_pn rfl rfl rfl) rfl rfl pre0 rfl rfl ?_
 refine snl h3 ?_
 refine wc (fun hc0=>?_) (fun hc0=>?_)
 ·have hr0:=hc0;(try simp only [hcs,Int.reduceToNat] at hc0)
  refine srg fun N h4=>?_
  refine s0 (hop_build (hs:=[]) st_26 rfl rfl trivial) ?_
  first
  | refine hm_s1 (hol_storeW ty_26 rfl rfl rfl rfl) rfl rfl (pre1 rfl) (c':=3) rfl ?_
  | refine hm_s1 (hol_store ty_26 rfl rfl rfl rfl (by first | exact Nat.le_of_ble_eq_true rfl | omega | (dsimp only;omega) | (simp <;> omega)) (by first | exact Nat.le_of_ble_eq_true rfl | omega | (dsimp only;omega) | (simp <;> omega)) (by first | exact Nat.le_of_ble_eq_true rfl | omega | (dsimp only;omega) | (simp <;> omega))) rfl rfl (pre1 rfl) (c':=3) rfl ?_
  refine sa<|snl h4<|hw_ret<|hq_then_ret ?_
  refine hq_ret2 rfl (rvl_cell rfl rfl ty_26 rqc rfl rfl) (rval_tmp rfl) [] rfl pre0 ?_
  exact fz_t2 (fz_agg10 fzc fzc fzc fzc fzc fzc fzc fzc fzc fzc) (.imm _)
 have hr0:=hc0;(try simp only [hcs,Int.reduceToNat] at hc0)
 exfalso;simp at hr0
theorem thr26_q (L:List (List Rg)) (mir:List (Int×Int)) (hL:L.length≤100000) (hok:RtOk L mir) (s:St) (l:s.sl.length≤20000∧s.sets.length≤20000):HPure Try.prog 23 [stV s,rt24 L mir] (optQ (byV (routeV L mir) s)):=optV_q _▸thr26_h L mir hL hok s l.1 l.2
theorem byV_len {tl:TF} {s:St} (l:s.sl.length≤20000∧s.sets.length≤20000):((byV tl s).getD St.none).sl.length≤20000∧((byV tl s).getD St.none).sets.length≤20000:=by
 unfold byV
 split
 ·split
  ·exact ⟨Nat.zero_le _,Nat.zero_le _⟩
  ·split
   ·show (kV tl s).2.1.sl.length≤_∧(kV tl s).2.1.sets.length≤_
    rw [kV_len.1,kV_len.2];exact l
   ·exact ⟨Nat.zero_le _,Nat.zero_le _⟩
 ·exact ⟨Nat.zero_le _,Nat.zero_le _⟩
theorem shiftThrough_h (s:St) (l:List Mp):HPure Try.prog 4 [stV s,mpsLV l] (boolV true):=by
 refine hpure_of Try.func4 rfl kr _ _ _ rfl 148 rfl rfl (fun w F=>?_)
 refine srg fun N h1=>?_
 refine hm_1 2 (hop_box (id:=2) (sz:=10) rfl rfl rfl omx omx) rfl rfl pre0 rfl rfl (c':=1) rfl ?_
 refine sa<|snl h1<|srg fun N h2=>?_
 first
 | refine hq_ 21 (hol_load ty_26 rfl (by first | exact Nat.le_of_ble_eq_true rfl | omega | (dsimp only;omega) | (simp <;> omega)) (by first | exact Nat.le_of_ble_eq_true rfl | omega | (dsimp only;omega) | (simp <;> omega)) (fun h=>(by first | rfl | cases h))) rfl rfl (pre1 rfl) rfl rfl ?_
 | refine hq_ 21 (hop_load_fp ty_26 rfl (by first | exact Nat.le_of_ble_eq_true rfl | omega | (dsimp only;omega) | (simp <;> omega)) (fun h=>(by first | rfl | cases h))) rfl rfl pre0 rfl rfl ?_
 refine s0 (hop_call0 (xs:=[_,_]) (thrNil_h s) ⟨rfl,⟨rfl,trivial⟩⟩ ⟨fe,⟨fe,trivial⟩⟩) ?_
 refine sm ?_
 refine s0 hex ?_
 refine s0 hex ?_
 refine hm_1 5 (hop_alloc (id:=5) (sz:=10) zc_26 rfl rfl omx omx) rfl rfl pre0 rfl rfl (c':=2) rfl ?_
 first
 | refine hm_s1 (hol_storeW ty_26 rfl rfl rfl rfl) rfl rfl (pre1 rfl) (c':=3) rfl ?_
 | refine hm_s1 (hol_store ty_26 rfl rfl rfl rfl (by first | exact Nat.le_of_ble_eq_true rfl | omega | (dsimp only;omega) | (simp <;> omega)) (by first | exact Nat.le_of_ble_eq_true rfl | omega | (dsimp only;omega) | (simp <;> omega)) (by first | exact Nat.le_of_ble_eq_true rfl | omega | (dsimp only;omega) | (simp <;> omega))) rfl rfl (pre1 rfl) (c':=3) rfl ?_
 refine sa<|snl h2<|hw_seq fun Nh3 h3=>srg fun N h4=>sm<|snl h4 ?_
 refine wc (fun hc0=>?_) (fun hc0=>?_)
 ·have hr0:=hc0;(try simp only [hcs,Int.reduceToNat] at hc0)
  exfalso;simp at hr0
 have hr0:=hc0;(try simp only [hcs,Int.reduceToNat] at hc0)
 refine hw_skip<|h3 _<|hw_seq fun Nh5 h5=>srg fun N h6=>?_
 first
 | refine hq_ 26 (hol_load ty_26 rfl (by first | exact Nat.le_of_ble_eq_true rfl | omega | (dsimp only;omega) | (simp <;> omega)) (by first | exact Nat.le_of_ble_eq_true rfl | omega | (dsimp only;omega) | (simp <;> omega)) (fun h=>(by first | rfl | cases h))) rfl rfl (pre1 rfl) rfl rfl ?_
 | refine hq_ 26 (hop_load_fp ty_26 rfl (by first | exact Nat.le_of_ble_eq_true rfl | omega | (dsimp only;omega) | (simp <;> omega)) (fun h=>(by first | rfl | cases h))) rfl rfl pre0 rfl rfl ?_
 refine s0 (hop_call0 (xs:=[_]) (Few25h s) ⟨rfl,trivial⟩ ⟨fe,trivial⟩) ?_
 refine s0 (hop_not rfl) ?_
 refine sm ?_
 first
 | refine stg 29 (fun hb=>hop_move rfl) rfl rfl rfl rfl rfl ?_
 | refine sth 29 (fun hb=>hop_move rfl) rfl rfl rfl rfl rfl ?_
 first
 | refine stg 29 (fun hb=>hop_len_sl (T:=37) rfl (elOf_spec el_37).1 rfl) rfl rfl rfl rfl rfl ?_
 | refine sth 29 (fun hb=>hop_len_sl (T:=37) rfl (elOf_spec el_37).1 rfl) rfl rfl rfl rfl rfl ?_
 | refine stg 29 (fun hb=>hop_len_os (T:=37) rfl (elOf_spec el_37).1 rfl) rfl rfl rfl rfl rfl ?_
 | refine sth 29 (fun hb=>hop_len_os (T:=37) rfl (elOf_spec el_37).1 rfl) rfl rfl rfl rfl rfl ?_
 | refine stg 29 (fun hb=>hop_len_nil (T:=37) rfl (elOf_spec el_37).1 rfl) rfl rfl rfl rfl rfl ?_
 | refine sth 29 (fun hb=>hop_len_nil (T:=37) rfl (elOf_spec el_37).1 rfl) rfl rfl rfl rfl rfl ?_
 first
 | refine stg 29 (fun hb=>hop_gtr rfl rfl) rfl rfl rfl rfl rfl ?_
 | refine sth 29 (fun hb=>hop_gtr rfl rfl) rfl rfl rfl rfl rfl ?_
 first
 | refine hq_p 33 (hstep_and _ _ rfl rfl rfl) rfl rfl rfl ?_
 | refine hq_p 33 (hstep_or _ _ rfl rfl rfl) rfl rfl rfl ?_
 | refine hq_p 33 (hstep_ite _ _ _ rfl rfl rfl) rfl rfl rfl ?_
 | refine hq_p 33 (hstep_pick _ _ _ _ rfl rfl rfl (fun _=>.refl _) (fun _=>.refl _)) rfl rfl rfl ?_
 refine nu ?_
 refine h6 _ ?_
 refine wc (fun hc1=>?_) (fun hc1=>?_)
 ·have hr1:=hc1;(try simp only [hcs,Int.reduceToNat] at hc1)
  refine srg fun N h7=>?_
  refine s0 (hop_call0 (xs:=[]) (live26_h) trivial trivial) ?_
  refine sa<|snl h7<|hw_ret<|hq_then_ret ?_
  refine hq_ret1 rfl (rval_tmp rfl) [] rfl pre0 ?_
  exact Frz.fz
 have hr1:=hc1;(try simp only [hcs,Int.reduceToNat] at hc1)
 have hl:(s.sl.length≤20000∧s.sets.length≤20000)∧l.length≤12:=(by have h9:=hr1;simp at h9;omega);obtain ⟨ls,ll⟩:=hl
 refine hw_skip<|h5 _<|srg fun N h8=>?_
 refine s0 (hop_build (hs:=[]) st_44 rfl rfl trivial) ?_
 refine hm_1 36 (hop_box (id:=9101) (sz:=2) rfl rfl rfl (by decide) (by decide)) rfl rfl pre0 rfl rfl (c':=4) rfl ?_
 refine sa<|snl h8<|srg fun N h9=>?_
 refine s0 (hop_build (hs:=[]) st_47 rfl rfl trivial) ?_
 refine hm_1 8 (hop_alloc (id:=8) (sz:=2) zc_47 rfl rfl omx omx) rfl rfl pre0 rfl rfl (c':=5) rfl ?_
 first
 | refine hm_s1 (hol_storeW ty_47 rfl rfl rfl rfl) rfl rfl (pre1 rfl) (c':=6) rfl ?_
 | refine hm_s1 (hol_store ty_47 rfl rfl rfl rfl (by first | exact Nat.le_of_ble_eq_true rfl | omega | (dsimp only;omega) | (simp <;> omega)) (by first | exact Nat.le_of_ble_eq_true rfl | omega | (dsimp only;omega) | (simp <;> omega)) (by first | exact Nat.le_of_ble_eq_true rfl | omega | (dsimp only;omega) | (simp <;> omega))) rfl rfl (pre1 rfl) (c':=6) rfl ?_
 refine snl h9<|hw_seq fun Nh10 h10=>hw_seq fun Nh11 h11=>?_
 refine (hsub_ownc 9101 0 9102 1 48 (mpsF []) (rtF (.os 9102 6 0 0) (.imm (.map none))) rfl rfl (fun j hj=>by match j,hj with | 0,_=>exact .inl ⟨rfl,rfl⟩ | 1,_=>exact .inr rfl) (by decide) (by decide) (c':=7) rfl).wp ?_
 refine hw_region<|sa<|snl h11<|hw_block ?_
 refine hw_loopc (α:=Nat×List (List Rg)×List (Int×Int)×Nat×Option Nat) (fun x c=>⟨148,[(1,.v (mpsLV l)),(2,.v (.pt 2 0 0 0)),(7,.v (.pt 9101 3 0 0)),(8,.v (.pt 8 4 0 0)),(9,.v (intV (x.1:Int)))],((2,stO 0 s)::(8,⟨4,1,2,47,0,fun _=>rtF24 x.2.1 x.2.2.1⟩)::(9101,rtO 3 (.os 9102 x.2.2.2.1 0 x.2.1.length) (mirC x.2.2.2.2))::(9102,mpsO x.2.2.2.1 x.2.1)::mirHp x.2.2.2.2 x.2.2.1),c⟩) (fun x=>x.1≤l.length∧x.2.1.length≤x.1∧(∀ j,j < x.2.1.length→rightM (x.2.1.getD j [])=true)∧MirOk x.2.1.length x.2.2.1∧(x.2.2.2.2=none→x.2.2.1=[])) (fun x=>l.length - x.1) ((0,[],[],6,none)) (by exact ⟨Nat.zero_le _,Nat.le_refl _,fun j h=>absurd h (Nat.not_lt_zero _),(fun i k h=>by cases h),fun _=>rfl⟩) (hsub_of rfl (Nat.le_refl _) tsa (hsr rfl (HpSub.cons rfl (OSub.of fun i j hi hj=>by obtain rfl:i=0:=om;match j,hj with | 0,_=>exact .nil _ _ _ (by decide) _ | 1,_=>exact .nil _ _ _ (by decide) _) hsa))) (fun x c hx NhL12 hL12=>?_)
 revert hx hL12;obtain ⟨i,L,mir,g2,v⟩:=x;intro hx hL12;dsimp only at hx hL12 ⊢
 obtain ⟨hil,hLi,hrt,hmk,hvn⟩:=hx
 refine hw_seq fun Nh13 h13=>hw_seq fun Nh14 h14=>?_
 rcases v with _ | gm
 ·skip
  obtain rfl:mir=[]:=hvn rfl;have hrok:=rtok_of hrt hmk
  refine hw_region<|sm<|sm ?_
  first
  | refine hq_ 40 (hop_len_sl (T:=37) rfl (elOf_spec el_37).1 rfl) rfl rfl pre0 rfl rfl ?_
  | refine hq_ 40 (hop_len_os (T:=37) rfl (elOf_spec el_37).1 rfl) rfl rfl pre0 rfl rfl ?_
  | refine hq_ 40 (hop_len_nil (T:=37) rfl (elOf_spec el_37).1 rfl) rfl rfl pre0 rfl rfl ?_
  refine s0 hli ?_
  refine snl h14 ?_
  refine wc (fun hc2=>?_) (fun hc2=>?_)
  ·have hr2:=hc2;(try simp only [hcs,Int.reduceToNat] at hc2)
   refine hw_skip<|h13 _<|hw_seq fun Nh15 h15=>hw_block<|hw_seq fun Nh16 h16=>srg fun N h17=>sm<|sm ?_
   first
   | refine hq_ 46 (hop_ia_sl el_37 rfl rfl (by first | exact Nat.le_of_ble_eq_true rfl | omega | (dsimp only;omega) | (simp <;> omega)) (by first | exact Nat.le_of_ble_eq_true rfl | omega | (dsimp only;omega) | (simp <;> omega)) (by first | exact Nat.le_of_ble_eq_true rfl | omega | (dsimp only;omega) | (simp <;> omega))) rfl rfl pre0 rfl rfl ?_
   | refine hq_ 46 (hol_ia_os el_37 rfl rfl (by first | exact Nat.le_of_ble_eq_true rfl | omega | (dsimp only;omega) | (simp <;> omega)) (by first | exact Nat.le_of_ble_eq_true rfl | omega | (dsimp only;omega) | (simp <;> omega))) rfl rfl (pre1 rfl) rfl rfl ?_
   first
   | refine hq_ 47 (hop_fa fd_50_0 rfl) rfl rfl pre0 rfl rfl ?_
   | refine hq_ 47 (hop_fa_fp fd_50_0 rfl (by first | exact Nat.le_of_ble_eq_true rfl | omega | (dsimp only;omega) | (simp <;> omega))) rfl rfl pre0 rfl rfl ?_
   first
   | refine hq_ 48 (HOp.val (v':=rgsV (l.getD i mp0).m) (hol_load ty_48 rfl (by first | exact Nat.le_of_ble_eq_true rfl | omega | (dsimp only;omega) | (simp <;> omega)) (by first | exact Nat.le_of_ble_eq_true rfl | omega | (dsimp only;omega) | (simp <;> omega)) (fun h=>(by first | rfl | cases h))) (rfl)) rfl rfl (pre1 rfl) rfl rfl ?_
   | refine hq_ 48 (HOp.val (v':=rgsV (l.getD i mp0).m) (hop_load_fp ty_48 rfl (by first | exact Nat.le_of_ble_eq_true rfl | omega | (dsimp only;omega) | (simp <;> omega)) (fun h=>(by first | rfl | cases h))) (rfl)) rfl rfl pre0 rfl rfl ?_
   first
   | refine hq_ 49 (hop_len_sl (T:=48) rfl (elOf_spec el_48).1 rfl) rfl rfl pre0 rfl rfl ?_
   | refine hq_ 49 (hop_len_os (T:=48) rfl (elOf_spec el_48).1 rfl) rfl rfl pre0 rfl rfl ?_
   | refine hq_ 49 (hop_len_nil (T:=48) rfl (elOf_spec el_48).1 rfl) rfl rfl pre0 rfl rfl ?_
   refine s0 (hop_gtr rfl rfl) ?_
   refine snl h17 ?_
   refine wc (fun hc3=>?_) (fun hc3=>?_)
   ·have hr3:=hc3;(try simp only [hcs,Int.reduceToNat] at hc3)
    refine srg fun N h18=>?_
    refine s0 (hop_call0 (xs:=[]) (live26_h) trivial trivial) ?_
    refine sa<|snl h18<|hw_ret<|hq_then_ret<|hq_block_ret<|hq_then_ret<|hq_then_ret<|hq_block_ret<|hq_then_ret ?_
    refine hq_ret1 rfl (rval_tmp rfl) [] rfl pre0 ?_
    exact Frz.fz
   have hr3:=hc3;(try simp only [hcs,Int.reduceToNat] at hc3)
   refine hw_skip<|h16 _<|hw_seq fun Nh19 h19=>srg fun N h20=>sm<|sm ?_
   first
   | refine hq_ 54 (hop_ia_sl el_37 rfl rfl (by first | exact Nat.le_of_ble_eq_true rfl | omega | (dsimp only;omega) | (simp <;> omega)) (by first | exact Nat.le_of_ble_eq_true rfl | omega | (dsimp only;omega) | (simp <;> omega)) (by first | exact Nat.le_of_ble_eq_true rfl | omega | (dsimp only;omega) | (simp <;> omega))) rfl rfl pre0 rfl rfl ?_
   | refine hq_ 54 (hol_ia_os el_37 rfl rfl (by first | exact Nat.le_of_ble_eq_true rfl | omega | (dsimp only;omega) | (simp <;> omega)) (by first | exact Nat.le_of_ble_eq_true rfl | omega | (dsimp only;omega) | (simp <;> omega))) rfl rfl (pre1 rfl) rfl rfl ?_
   first
   | refine hq_ 55 (hop_fa fd_50_0 rfl) rfl rfl pre0 rfl rfl ?_
   | refine hq_ 55 (hop_fa_fp fd_50_0 rfl (by first | exact Nat.le_of_ble_eq_true rfl | omega | (dsimp only;omega) | (simp <;> omega))) rfl rfl pre0 rfl rfl ?_
   first
   | refine hq_ 56 (HOp.val (v':=rgsV (l.getD i mp0).m) (hol_load ty_48 rfl (by first | exact Nat.le_of_ble_eq_true rfl | omega | (dsimp only;omega) | (simp <;> omega)) (by first | exact Nat.le_of_ble_eq_true rfl | omega | (dsimp only;omega) | (simp <;> omega)) (fun h=>(by first | rfl | cases h))) (rfl)) rfl rfl (pre1 rfl) rfl rfl ?_
   | refine hq_ 56 (HOp.val (v':=rgsV (l.getD i mp0).m) (hop_load_fp ty_48 rfl (by first | exact Nat.le_of_ble_eq_true rfl | omega | (dsimp only;omega) | (simp <;> omega)) (fun h=>(by first | rfl | cases h))) (rfl)) rfl rfl pre0 rfl rfl ?_
   refine s0 (hop_call0 (xs:=[_]) (right23_h (l.getD i mp0).m) ⟨rfl,trivial⟩ ⟨fe,trivial⟩) ?_
   refine s0 (hop_not rfl) ?_
   refine snl h20 ?_
   refine wc (fun hc4=>?_) (fun hc4=>?_)
   ·have hr4:=hc4;(try simp only [hcs,Int.reduceToNat] at hc4)
    refine hw_exit ?_
    refine hq_then_exit<|hq_block_here<|h15 _<|hw_region<|sm ?_
    first
    | refine hq_ 43 (hop_addi rfl rfl rfl (by first | exact Nat.le_of_ble_eq_true rfl | omega | (dsimp only;omega) | (simp <;> omega)) (by first | exact Nat.le_of_ble_eq_true rfl | omega | (dsimp only;omega) | (simp <;> omega))) rfl rfl pre0 rfl rfl ?_
    | refine hq_ 43 (hop_add rfl rfl) rfl rfl pre0 rfl rfl ?_
    refine sa<|hseq_nil ?_
    exact hL12 ((i+1,L,[],g2,none)) _ _ (by (try dsimp only);exact ⟨by omega,by omega,hrt,hmk,hvn⟩) (by (try dsimp only);omega) (hsub_of rfl (Nat.le_refl _) tsa (hsr rfl (hsr rfl (hsr rfl (hsr rfl (by first | exact HpSub.nil | exact HpSub.cons rfl (OSub.refl _) HpSub.nil))))))
   have hr4:=hc4;(try simp only [hcs,Int.reduceToNat] at hc4)
   have hm:rightM (l.getD i mp0).m=true:=(by simpa using hr4)
   refine hw_skip<|h19 _<|srg fun N h21=>sa<|snl h21<|srg fun N h22=>sa<|snl h22<|hw_seq fun Nh23 h23=>hw_seq fun Nh24 h24=>hd_start ?_
   first
   | refine hd_q 59 (HOp.val (v':=rt24 L []) (hol_load ty_47 rfl (by first | exact Nat.le_of_ble_eq_true rfl | omega | (dsimp only;omega) | (simp <;> omega)) (by first | exact Nat.le_of_ble_eq_true rfl | omega | (dsimp only;omega) | (simp <;> omega)) (fun h=>(by first | rfl | cases h))) (rfl)) rfl rfl (pre1 rfl) rfl rfl (k':=1) rfl ?_
   | refine hd_q 59 (HOp.val (v':=rt24 L []) (hop_load_fp ty_47 rfl (by first | exact Nat.le_of_ble_eq_true rfl | omega | (dsimp only;omega) | (simp <;> omega)) (fun h=>(by first | rfl | cases h))) (rfl)) rfl rfl pre0 rfl rfl (k':=1) rfl ?_
   refine dm 2 ?_
   refine dm 3 ?_
   first
   | refine hd_q 62 (hop_ia_sl el_37 rfl rfl (by first | exact Nat.le_of_ble_eq_true rfl | omega | (dsimp only;omega) | (simp <;> omega)) (by first | exact Nat.le_of_ble_eq_true rfl | omega | (dsimp only;omega) | (simp <;> omega)) (by first | exact Nat.le_of_ble_eq_true rfl | omega | (dsimp only;omega) | (simp <;> omega))) rfl rfl pre0 rfl rfl (k':=4) rfl ?_
   | refine hd_q 62 (hol_ia_os el_37 rfl rfl (by first | exact Nat.le_of_ble_eq_true rfl | omega | (dsimp only;omega) | (simp <;> omega)) (by first | exact Nat.le_of_ble_eq_true rfl | omega | (dsimp only;omega) | (simp <;> omega))) rfl rfl (pre1 rfl) rfl rfl (k':=4) rfl ?_
   first
   | refine hd_q 63 (hop_fa fd_50_1 rfl) rfl rfl pre0 rfl rfl (k':=5) rfl ?_
   | refine hd_q 63 (hop_fa_fp fd_50_1 rfl (by first | exact Nat.le_of_ble_eq_true rfl | omega | (dsimp only;omega) | (simp <;> omega))) rfl rfl pre0 rfl rfl (k':=5) rfl ?_
   first
   | refine hd_q 64 (HOp.val (v':=intV (l.getD i mp0).of) (hol_load ty_3 rfl (by first | exact Nat.le_of_ble_eq_true rfl | omega | (dsimp only;omega) | (simp <;> omega)) (by first | exact Nat.le_of_ble_eq_true rfl | omega | (dsimp only;omega) | (simp <;> omega)) (fun h=>(by first | rfl | cases h))) (rfl)) rfl rfl (pre1 rfl) rfl rfl (k':=6) rfl ?_
   | refine hd_q 64 (HOp.val (v':=intV (l.getD i mp0).of) (hop_load_fp ty_3 rfl (by first | exact Nat.le_of_ble_eq_true rfl | omega | (dsimp only;omega) | (simp <;> omega)) (fun h=>(by first | rfl | cases h))) (rfl)) rfl rfl pre0 rfl rfl (k':=6) rfl ?_
   refine d0 7 (hop_call0 (xs:=[_,_]) (free_h L [] (l.getD i mp0).of) ⟨rfl,⟨rfl,trivial⟩⟩ ⟨fe,⟨fe,trivial⟩⟩) ?_
   refine hd_nil kr kr (c':=c+7) rfl ?_
   refine h24 _ ?_
   refine wc (fun hc5=>?_) (fun hc5=>?_)
   ·have hr5:=hc5;(try simp only [hcs,Int.reduceToNat] at hc5)
    have hfr:=free_lk hmk hc5
    refine srg fun N h25=>sm<|sm ?_
    first
    | refine hq_ 68 (hop_ia_sl el_37 rfl rfl (by first | exact Nat.le_of_ble_eq_true rfl | omega | (dsimp only;omega) | (simp <;> omega)) (by first | exact Nat.le_of_ble_eq_true rfl | omega | (dsimp only;omega) | (simp <;> omega)) (by first | exact Nat.le_of_ble_eq_true rfl | omega | (dsimp only;omega) | (simp <;> omega))) rfl rfl pre0 rfl rfl ?_
    | refine hq_ 68 (hol_ia_os el_37 rfl rfl (by first | exact Nat.le_of_ble_eq_true rfl | omega | (dsimp only;omega) | (simp <;> omega)) (by first | exact Nat.le_of_ble_eq_true rfl | omega | (dsimp only;omega) | (simp <;> omega))) rfl rfl (pre1 rfl) rfl rfl ?_
    first
    | refine hq_ 69 (hop_fa fd_50_1 rfl) rfl rfl pre0 rfl rfl ?_
    | refine hq_ 69 (hop_fa_fp fd_50_1 rfl (by first | exact Nat.le_of_ble_eq_true rfl | omega | (dsimp only;omega) | (simp <;> omega))) rfl rfl pre0 rfl rfl ?_
    first
    | refine hq_ 70 (HOp.val (v':=intV (l.getD i mp0).of) (hol_load ty_3 rfl (by first | exact Nat.le_of_ble_eq_true rfl | omega | (dsimp only;omega) | (simp <;> omega)) (by first | exact Nat.le_of_ble_eq_true rfl | omega | (dsimp only;omega) | (simp <;> omega)) (fun h=>(by first | rfl | cases h))) (rfl)) rfl rfl (pre1 rfl) rfl rfl ?_
    | refine hq_ 70 (HOp.val (v':=intV (l.getD i mp0).of) (hop_load_fp ty_3 rfl (by first | exact Nat.le_of_ble_eq_true rfl | omega | (dsimp only;omega) | (simp <;> omega)) (fun h=>(by first | rfl | cases h))) (rfl)) rfl rfl pre0 rfl rfl ?_
    refine sa<|snl h25<|hw_region<|sm<|sm<|sm ?_
    first
    | refine hq_ 74 (hop_ia_sl el_37 rfl rfl (by first | exact Nat.le_of_ble_eq_true rfl | omega | (dsimp only;omega) | (simp <;> omega)) (by first | exact Nat.le_of_ble_eq_true rfl | omega | (dsimp only;omega) | (simp <;> omega)) (by first | exact Nat.le_of_ble_eq_true rfl | omega | (dsimp only;omega) | (simp <;> omega))) rfl rfl pre0 rfl rfl ?_
    | refine hq_ 74 (hol_ia_os el_37 rfl rfl (by first | exact Nat.le_of_ble_eq_true rfl | omega | (dsimp only;omega) | (simp <;> omega)) (by first | exact Nat.le_of_ble_eq_true rfl | omega | (dsimp only;omega) | (simp <;> omega))) rfl rfl (pre1 rfl) rfl rfl ?_
    first
    | refine hq_ 75 (hop_fa fd_50_0 rfl) rfl rfl pre0 rfl rfl ?_
    | refine hq_ 75 (hop_fa_fp fd_50_0 rfl (by first | exact Nat.le_of_ble_eq_true rfl | omega | (dsimp only;omega) | (simp <;> omega))) rfl rfl pre0 rfl rfl ?_
    first
    | refine hq_ 76 (HOp.val (v':=rgsV (l.getD i mp0).m) (hol_load ty_48 rfl (by first | exact Nat.le_of_ble_eq_true rfl | omega | (dsimp only;omega) | (simp <;> omega)) (by first | exact Nat.le_of_ble_eq_true rfl | omega | (dsimp only;omega) | (simp <;> omega)) (fun h=>(by first | rfl | cases h))) (rfl)) rfl rfl (pre1 rfl) rfl rfl ?_
    | refine hq_ 76 (HOp.val (v':=rgsV (l.getD i mp0).m) (hop_load_fp ty_48 rfl (by first | exact Nat.le_of_ble_eq_true rfl | omega | (dsimp only;omega) | (simp <;> omega)) (fun h=>(by first | rfl | cases h))) (rfl)) rfl rfl pre0 rfl rfl ?_
    refine sm ?_
    refine hf_callR 78 (xs:=[_,_,_]) (pre:=[(9101,_),(9102,_)]) (mirrN_h _ 3 g2 L om (l.getD i mp0).m hm (l.getD i mp0).of hfr.1 hfr.2 (mirOk_no hmk)) ⟨rfl,⟨rfl,⟨rfl,trivial⟩⟩⟩ (preC rfl (preC rfl pre0)) rfl rfl (fun x1 c1 hx1=>?_)
    obtain ⟨g5,g6⟩:=x1
    (try dsimp only)
    refine sa<|snl h23<|hw_seq fun Nh26 h26=>srg fun N h27=>sm ?_
    refine s0 (hop_neq rfl rfl) ?_
    refine snl h27 ?_
    refine wc (fun hc6=>?_) (fun hc6=>?_)
    ·have hr6:=hc6;(try simp only [hcs,Int.reduceToNat] at hc6)
     exfalso;simp at hr6
    have hr6:=hc6;(try simp only [hcs,Int.reduceToNat] at hc6)
    refine hw_skip<|h26 _<|hd_start ?_
    first
    | refine hd_q 89 (HOp.val (v':=rt24 L []) (hol_load ty_47 rfl (by first | exact Nat.le_of_ble_eq_true rfl | omega | (dsimp only;omega) | (simp <;> omega)) (by first | exact Nat.le_of_ble_eq_true rfl | omega | (dsimp only;omega) | (simp <;> omega)) (fun h=>(by first | rfl | cases h))) (rfl)) rfl rfl (pre1 rfl) rfl rfl (k':=1) rfl ?_
    | refine hd_q 89 (HOp.val (v':=rt24 L []) (hop_load_fp ty_47 rfl (by first | exact Nat.le_of_ble_eq_true rfl | omega | (dsimp only;omega) | (simp <;> omega)) (fun h=>(by first | rfl | cases h))) (rfl)) rfl rfl pre0 rfl rfl (k':=1) rfl ?_
    refine dm 2 ?_
    refine dm 3 ?_
    first
    | refine hd_q 92 (hop_ia_sl el_37 rfl rfl (by first | exact Nat.le_of_ble_eq_true rfl | omega | (dsimp only;omega) | (simp <;> omega)) (by first | exact Nat.le_of_ble_eq_true rfl | omega | (dsimp only;omega) | (simp <;> omega)) (by first | exact Nat.le_of_ble_eq_true rfl | omega | (dsimp only;omega) | (simp <;> omega))) rfl rfl pre0 rfl rfl (k':=4) rfl ?_
    | refine hd_q 92 (hol_ia_os el_37 rfl rfl (by first | exact Nat.le_of_ble_eq_true rfl | omega | (dsimp only;omega) | (simp <;> omega)) (by first | exact Nat.le_of_ble_eq_true rfl | omega | (dsimp only;omega) | (simp <;> omega))) rfl rfl (pre1 rfl) rfl rfl (k':=4) rfl ?_
    first
    | refine hd_q 93 (hop_fa fd_50_0 rfl) rfl rfl pre0 rfl rfl (k':=5) rfl ?_
    | refine hd_q 93 (hop_fa_fp fd_50_0 rfl (by first | exact Nat.le_of_ble_eq_true rfl | omega | (dsimp only;omega) | (simp <;> omega))) rfl rfl pre0 rfl rfl (k':=5) rfl ?_
    first
    | refine hd_q 94 (HOp.val (v':=rgsV (l.getD i mp0).m) (hol_load ty_48 rfl (by first | exact Nat.le_of_ble_eq_true rfl | omega | (dsimp only;omega) | (simp <;> omega)) (by first | exact Nat.le_of_ble_eq_true rfl | omega | (dsimp only;omega) | (simp <;> omega)) (fun h=>(by first | rfl | cases h))) (rfl)) rfl rfl (pre1 rfl) rfl rfl (k':=6) rfl ?_
    | refine hd_q 94 (HOp.val (v':=rgsV (l.getD i mp0).m) (hop_load_fp ty_48 rfl (by first | exact Nat.le_of_ble_eq_true rfl | omega | (dsimp only;omega) | (simp <;> omega)) (fun h=>(by first | rfl | cases h))) (rfl)) rfl rfl pre0 rfl rfl (k':=6) rfl ?_
    refine dm 7 ?_
    refine d0 8 (hop_call0 (xs:=[_,_,_]) (add24_h L [] (mirS [] (l.getD i mp0).of L.length) om hmk (l.getD i mp0).m hm (l.getD i mp0).of (.inr ⟨hc5,rfl⟩)) ⟨rfl,⟨rfl,⟨rfl,trivial⟩⟩⟩ ⟨fe,⟨fe,⟨fe,trivial⟩⟩⟩) ?_
    refine dm 9 ?_
    refine d0 10 hex ?_
    refine d0 11 hex ?_
    first
    | refine hd_s1 (hol_storeW ty_47 rfl rfl rfl rfl) rfl rfl (pre1 rfl) (k':=12) rfl ?_
    | refine hd_s1 (hol_store ty_47 rfl rfl rfl rfl (by first | exact Nat.le_of_ble_eq_true rfl | omega | (dsimp only;omega) | (simp <;> omega)) (by first | exact Nat.le_of_ble_eq_true rfl | omega | (dsimp only;omega) | (simp <;> omega)) (by first | exact Nat.le_of_ble_eq_true rfl | omega | (dsimp only;omega) | (simp <;> omega))) rfl rfl (pre1 rfl) (k':=12) rfl ?_
    refine hd_nil kr kr (c':=c1+12) rfl ?_
    refine hq_block<|h15 _<|hw_region<|sm ?_
    first
    | refine hq_ 43 (hop_addi rfl rfl rfl (by first | exact Nat.le_of_ble_eq_true rfl | omega | (dsimp only;omega) | (simp <;> omega)) (by first | exact Nat.le_of_ble_eq_true rfl | omega | (dsimp only;omega) | (simp <;> omega))) rfl rfl pre0 rfl rfl ?_
    | refine hq_ 43 (hop_add rfl rfl) rfl rfl pre0 rfl rfl ?_
    refine sa<|hseq_nil ?_
    exact hL12 ((i+1,L++[(l.getD i mp0).m],mirS [] (l.getD i mp0).of L.length,g5,some g6)) _ _ (by (try dsimp only);exact ⟨by omega,by simp;omega,right_more hrt hm,by rw [List.length_append];exact mirOk_put hmk hfr.1,fun h=>by cases h⟩) (by (try dsimp only);omega) (hsub_of rfl (Nat.le_refl _) tsa (hsr rfl (hsr rfl (hsr rfl (hsr rfl (by first | exact HpSub.nil | exact HpSub.cons rfl (OSub.refl _) HpSub.nil))))))
   have hr5:=hc5;(try simp only [hcs,Int.reduceToNat] at hc5)
   refine hw_region<|sm<|sm<|sm ?_
   first
   | refine hq_ 82 (hop_ia_sl el_37 rfl rfl (by first | exact Nat.le_of_ble_eq_true rfl | omega | (dsimp only;omega) | (simp <;> omega)) (by first | exact Nat.le_of_ble_eq_true rfl | omega | (dsimp only;omega) | (simp <;> omega)) (by first | exact Nat.le_of_ble_eq_true rfl | omega | (dsimp only;omega) | (simp <;> omega))) rfl rfl pre0 rfl rfl ?_
   | refine hq_ 82 (hol_ia_os el_37 rfl rfl (by first | exact Nat.le_of_ble_eq_true rfl | omega | (dsimp only;omega) | (simp <;> omega)) (by first | exact Nat.le_of_ble_eq_true rfl | omega | (dsimp only;omega) | (simp <;> omega))) rfl rfl (pre1 rfl) rfl rfl ?_
   first
   | refine hq_ 83 (hop_fa fd_50_0 rfl) rfl rfl pre0 rfl rfl ?_
   | refine hq_ 83 (hop_fa_fp fd_50_0 rfl (by first | exact Nat.le_of_ble_eq_true rfl | omega | (dsimp only;omega) | (simp <;> omega))) rfl rfl pre0 rfl rfl ?_
   first
   | refine hq_ 84 (HOp.val (v':=rgsV (l.getD i mp0).m) (hol_load ty_48 rfl (by first | exact Nat.le_of_ble_eq_true rfl | omega | (dsimp only;omega) | (simp <;> omega)) (by first | exact Nat.le_of_ble_eq_true rfl | omega | (dsimp only;omega) | (simp <;> omega)) (fun h=>(by first | rfl | cases h))) (rfl)) rfl rfl (pre1 rfl) rfl rfl ?_
   | refine hq_ 84 (HOp.val (v':=rgsV (l.getD i mp0).m) (hop_load_fp ty_48 rfl (by first | exact Nat.le_of_ble_eq_true rfl | omega | (dsimp only;omega) | (simp <;> omega)) (fun h=>(by first | rfl | cases h))) (rfl)) rfl rfl pre0 rfl rfl ?_
   refine hf_callR 85 (xs:=[_,_]) (pre:=[(9101,_),(9102,_)]) (addN_h _ 3 g2 L om (l.getD i mp0).m hm) ⟨rfl,⟨rfl,trivial⟩⟩ (preC rfl (preC rfl pre0)) rfl rfl (fun g5 c2 hx2=>?_)
   (try dsimp only)
   refine sa<|snl h23<|hw_seq fun Nh28 h28=>srg fun N h29=>sm ?_
   refine s0 (hop_neq rfl rfl) ?_
   refine snl h29 ?_
   refine wc (fun hc6=>?_) (fun hc6=>?_)
   ·have hr6:=hc6;(try simp only [hcs,Int.reduceToNat] at hc6)
    exfalso;simp at hr6
   have hr6:=hc6;(try simp only [hcs,Int.reduceToNat] at hc6)
   refine hw_skip<|h28 _<|hd_start ?_
   first
   | refine hd_q 89 (HOp.val (v':=rt24 L []) (hol_load ty_47 rfl (by first | exact Nat.le_of_ble_eq_true rfl | omega | (dsimp only;omega) | (simp <;> omega)) (by first | exact Nat.le_of_ble_eq_true rfl | omega | (dsimp only;omega) | (simp <;> omega)) (fun h=>(by first | rfl | cases h))) (rfl)) rfl rfl (pre1 rfl) rfl rfl (k':=1) rfl ?_
   | refine hd_q 89 (HOp.val (v':=rt24 L []) (hop_load_fp ty_47 rfl (by first | exact Nat.le_of_ble_eq_true rfl | omega | (dsimp only;omega) | (simp <;> omega)) (fun h=>(by first | rfl | cases h))) (rfl)) rfl rfl pre0 rfl rfl (k':=1) rfl ?_
   refine dm 2 ?_
   refine dm 3 ?_
   first
   | refine hd_q 92 (hop_ia_sl el_37 rfl rfl (by first | exact Nat.le_of_ble_eq_true rfl | omega | (dsimp only;omega) | (simp <;> omega)) (by first | exact Nat.le_of_ble_eq_true rfl | omega | (dsimp only;omega) | (simp <;> omega)) (by first | exact Nat.le_of_ble_eq_true rfl | omega | (dsimp only;omega) | (simp <;> omega))) rfl rfl pre0 rfl rfl (k':=4) rfl ?_
   | refine hd_q 92 (hol_ia_os el_37 rfl rfl (by first | exact Nat.le_of_ble_eq_true rfl | omega | (dsimp only;omega) | (simp <;> omega)) (by first | exact Nat.le_of_ble_eq_true rfl | omega | (dsimp only;omega) | (simp <;> omega))) rfl rfl (pre1 rfl) rfl rfl (k':=4) rfl ?_
   first
   | refine hd_q 93 (hop_fa fd_50_0 rfl) rfl rfl pre0 rfl rfl (k':=5) rfl ?_
   | refine hd_q 93 (hop_fa_fp fd_50_0 rfl (by first | exact Nat.le_of_ble_eq_true rfl | omega | (dsimp only;omega) | (simp <;> omega))) rfl rfl pre0 rfl rfl (k':=5) rfl ?_
   first
   | refine hd_q 94 (HOp.val (v':=rgsV (l.getD i mp0).m) (hol_load ty_48 rfl (by first | exact Nat.le_of_ble_eq_true rfl | omega | (dsimp only;omega) | (simp <;> omega)) (by first | exact Nat.le_of_ble_eq_true rfl | omega | (dsimp only;omega) | (simp <;> omega)) (fun h=>(by first | rfl | cases h))) (rfl)) rfl rfl (pre1 rfl) rfl rfl (k':=6) rfl ?_
   | refine hd_q 94 (HOp.val (v':=rgsV (l.getD i mp0).m) (hop_load_fp ty_48 rfl (by first | exact Nat.le_of_ble_eq_true rfl | omega | (dsimp only;omega) | (simp <;> omega)) (fun h=>(by first | rfl | cases h))) (rfl)) rfl rfl pre0 rfl rfl (k':=6) rfl ?_
   refine dm 7 ?_
   refine d0 8 (hop_call0 (xs:=[_,_,_]) (add24_h L [] [] om hmk (l.getD i mp0).m hm (-1) (.inl ⟨rfl,rfl⟩)) ⟨rfl,⟨rfl,⟨rfl,trivial⟩⟩⟩ ⟨fe,⟨fe,⟨fe,trivial⟩⟩⟩) ?_
   refine dm 9 ?_
   refine d0 10 hex ?_
   refine d0 11 hex ?_
   first
   | refine hd_s1 (hol_storeW ty_47 rfl rfl rfl rfl) rfl rfl (pre1 rfl) (k':=12) rfl ?_
   | refine hd_s1 (hol_store ty_47 rfl rfl rfl rfl (by first | exact Nat.le_of_ble_eq_true rfl | omega | (dsimp only;omega) | (simp <;> omega)) (by first | exact Nat.le_of_ble_eq_true rfl | omega | (dsimp only;omega) | (simp <;> omega)) (by first | exact Nat.le_of_ble_eq_true rfl | omega | (dsimp only;omega) | (simp <;> omega))) rfl rfl (pre1 rfl) (k':=12) rfl ?_
   refine hd_nil kr kr (c':=c2+12) rfl ?_
   refine hq_block<|h15 _<|hw_region<|sm ?_
   first
   | refine hq_ 43 (hop_addi rfl rfl rfl (by first | exact Nat.le_of_ble_eq_true rfl | omega | (dsimp only;omega) | (simp <;> omega)) (by first | exact Nat.le_of_ble_eq_true rfl | omega | (dsimp only;omega) | (simp <;> omega))) rfl rfl pre0 rfl rfl ?_
   | refine hq_ 43 (hop_add rfl rfl) rfl rfl pre0 rfl rfl ?_
   refine sa<|hseq_nil ?_
   exact hL12 ((i+1,L++[(l.getD i mp0).m],[],g5,none)) _ _ (by (try dsimp only);exact ⟨by omega,by simp;omega,right_more hrt hm,by rw [List.length_append];exact mirOk_more hmk,hvn⟩) (by (try dsimp only);omega) (hsub_of rfl (Nat.le_refl _) tsa (hsr rfl (hsr rfl (hsr rfl (hsr rfl (by first | exact HpSub.nil | exact HpSub.cons rfl (OSub.refl _) HpSub.nil))))))
  have hr2:=hc2;(try simp only [hcs,Int.reduceToNat] at hc2)
  refine hw_exit ?_
  refine hq_then_exit<|hq_then_exit<|hq_block_here<|h10 _<|srg fun N h30=>?_
  first
  | refine hq_ 100 (hol_load ty_26 rfl (by first | exact Nat.le_of_ble_eq_true rfl | omega | (dsimp only;omega) | (simp <;> omega)) (by first | exact Nat.le_of_ble_eq_true rfl | omega | (dsimp only;omega) | (simp <;> omega)) (fun h=>(by first | rfl | cases h))) rfl rfl (pre1 rfl) rfl rfl ?_
  | refine hq_ 100 (hop_load_fp ty_26 rfl (by first | exact Nat.le_of_ble_eq_true rfl | omega | (dsimp only;omega) | (simp <;> omega)) (fun h=>(by first | rfl | cases h))) rfl rfl pre0 rfl rfl ?_
  refine sm ?_
  refine hf_callR 102 (xs:=[_,_]) (pre:=[(9101,_),(9102,_)]) ((optV_q _▸thrN_h 3 g2 L om hrok s ls.1 ls.2 rfl) _) ⟨rfl,⟨rfl,trivial⟩⟩ (preC rfl (preC rfl pre0)) rfl rfl (fun x3 c3 hx3=>?_)
  (try dsimp only)
  refine sm ?_
  refine s0 hex ?_
  refine s0 hex ?_
  refine hm_1 12 (hop_alloc (id:=12) (sz:=10) zc_26 rfl rfl omx omx) rfl rfl pre0 rfl rfl (c':=c3+1) rfl ?_
  first
  | refine hm_s1 (hol_storeW ty_26 rfl rfl rfl rfl) rfl rfl (pre1 rfl) (c':=c3+2) rfl ?_
  | refine hm_s1 (hol_store ty_26 rfl rfl rfl rfl (by first | exact Nat.le_of_ble_eq_true rfl | omega | (dsimp only;omega) | (simp <;> omega)) (by first | exact Nat.le_of_ble_eq_true rfl | omega | (dsimp only;omega) | (simp <;> omega)) (by first | exact Nat.le_of_ble_eq_true rfl | omega | (dsimp only;omega) | (simp <;> omega))) rfl rfl (pre1 rfl) (c':=c3+2) rfl ?_
  refine sa<|snl h30<|srg fun N h31=>?_
  first
  | refine hq_ 106 (hol_load ty_26 rfl (by first | exact Nat.le_of_ble_eq_true rfl | omega | (dsimp only;omega) | (simp <;> omega)) (by first | exact Nat.le_of_ble_eq_true rfl | omega | (dsimp only;omega) | (simp <;> omega)) (fun h=>(by first | rfl | cases h))) rfl rfl (pre1 rfl) rfl rfl ?_
  | refine hq_ 106 (hop_load_fp ty_26 rfl (by first | exact Nat.le_of_ble_eq_true rfl | omega | (dsimp only;omega) | (simp <;> omega)) (fun h=>(by first | rfl | cases h))) rfl rfl pre0 rfl rfl ?_
  first
  | refine hq_ 107 (HOp.val (v':=rt24 L []) (hol_load ty_47 rfl (by first | exact Nat.le_of_ble_eq_true rfl | omega | (dsimp only;omega) | (simp <;> omega)) (by first | exact Nat.le_of_ble_eq_true rfl | omega | (dsimp only;omega) | (simp <;> omega)) (fun h=>(by first | rfl | cases h))) (rfl)) rfl rfl (pre1 rfl) rfl rfl ?_
  | refine hq_ 107 (HOp.val (v':=rt24 L []) (hop_load_fp ty_47 rfl (by first | exact Nat.le_of_ble_eq_true rfl | omega | (dsimp only;omega) | (simp <;> omega)) (fun h=>(by first | rfl | cases h))) (rfl)) rfl rfl pre0 rfl rfl ?_
  refine s0 (hop_call0 (xs:=[_,_]) (thr26_q L [] om hrok s ls) ⟨rfl,⟨rfl,trivial⟩⟩ ⟨fe,⟨fe,trivial⟩⟩) ?_
  refine sm ?_
  refine s0 hex ?_
  refine s0 hex ?_
  refine hm_1 14 (hop_alloc (id:=14) (sz:=10) zc_26 rfl rfl omx omx) rfl rfl pre0 rfl rfl (c':=c3+3) rfl ?_
  first
  | refine hm_s1 (hol_storeW ty_26 rfl rfl rfl rfl) rfl rfl (pre1 rfl) (c':=c3+4) rfl ?_
  | refine hm_s1 (hol_store ty_26 rfl rfl rfl rfl (by first | exact Nat.le_of_ble_eq_true rfl | omega | (dsimp only;omega) | (simp <;> omega)) (by first | exact Nat.le_of_ble_eq_true rfl | omega | (dsimp only;omega) | (simp <;> omega)) (by first | exact Nat.le_of_ble_eq_true rfl | omega | (dsimp only;omega) | (simp <;> omega))) rfl rfl (pre1 rfl) (c':=c3+4) rfl ?_
  refine sa<|snl h31<|srg fun N h32=>?_
  first
  | refine hq_ 112 (hol_load ty_26 rfl (by first | exact Nat.le_of_ble_eq_true rfl | omega | (dsimp only;omega) | (simp <;> omega)) (by first | exact Nat.le_of_ble_eq_true rfl | omega | (dsimp only;omega) | (simp <;> omega)) (fun h=>(by first | rfl | cases h))) rfl rfl (pre1 rfl) rfl rfl ?_
  | refine hq_ 112 (hop_load_fp ty_26 rfl (by first | exact Nat.le_of_ble_eq_true rfl | omega | (dsimp only;omega) | (simp <;> omega)) (fun h=>(by first | rfl | cases h))) rfl rfl pre0 rfl rfl ?_
  refine sm ?_
  refine s0 (hop_makeBound rfl) ?_
  refine hf_callR 115 (xs:=[_,_]) (pre:=[(9101,_),(9102,_)]) ((optV_q _▸byN_h 3 g2 L om hrok s ls.1 ls.2) _) ⟨rfl,⟨rfl,trivial⟩⟩ (preC rfl (preC rfl pre0)) rfl rfl (fun x4 c4 hx4=>?_)
  (try dsimp only)
  refine sm ?_
  refine s0 hex ?_
  refine s0 hex ?_
  refine hm_1 16 (hop_alloc (id:=16) (sz:=10) zc_26 rfl rfl omx omx) rfl rfl pre0 rfl rfl (c':=c4+1) rfl ?_
  first
  | refine hm_s1 (hol_storeW ty_26 rfl rfl rfl rfl) rfl rfl (pre1 rfl) (c':=c4+2) rfl ?_
  | refine hm_s1 (hol_store ty_26 rfl rfl rfl rfl (by first | exact Nat.le_of_ble_eq_true rfl | omega | (dsimp only;omega) | (simp <;> omega)) (by first | exact Nat.le_of_ble_eq_true rfl | omega | (dsimp only;omega) | (simp <;> omega)) (by first | exact Nat.le_of_ble_eq_true rfl | omega | (dsimp only;omega) | (simp <;> omega))) rfl rfl (pre1 rfl) (c':=c4+2) rfl ?_
  refine sa<|snl h32<|srg fun N h33=>?_
  first
  | refine hq_ 119 (hol_load ty_26 rfl (by first | exact Nat.le_of_ble_eq_true rfl | omega | (dsimp only;omega) | (simp <;> omega)) (by first | exact Nat.le_of_ble_eq_true rfl | omega | (dsimp only;omega) | (simp <;> omega)) (fun h=>(by first | rfl | cases h))) rfl rfl (pre1 rfl) rfl rfl ?_
  | refine hq_ 119 (hop_load_fp ty_26 rfl (by first | exact Nat.le_of_ble_eq_true rfl | omega | (dsimp only;omega) | (simp <;> omega)) (fun h=>(by first | rfl | cases h))) rfl rfl pre0 rfl rfl ?_
  refine s0 (hop_call0 (xs:=[_,_]) (byNil_h s ls.1 ls.2) ⟨rfl,⟨rfl,trivial⟩⟩ ⟨fe,⟨fe,trivial⟩⟩) ?_
  refine sm ?_
  refine s0 hex ?_
  refine s0 hex ?_
  refine hm_1 18 (hop_alloc (id:=18) (sz:=10) zc_26 rfl rfl omx omx) rfl rfl pre0 rfl rfl (c':=c4+3) rfl ?_
  first
  | refine hm_s1 (hol_storeW ty_26 rfl rfl rfl rfl) rfl rfl (pre1 rfl) (c':=c4+4) rfl ?_
  | refine hm_s1 (hol_store ty_26 rfl rfl rfl rfl (by first | exact Nat.le_of_ble_eq_true rfl | omega | (dsimp only;omega) | (simp <;> omega)) (by first | exact Nat.le_of_ble_eq_true rfl | omega | (dsimp only;omega) | (simp <;> omega)) (by first | exact Nat.le_of_ble_eq_true rfl | omega | (dsimp only;omega) | (simp <;> omega))) rfl rfl (pre1 rfl) (c':=c4+4) rfl ?_
  refine sa<|snl h33<|srg fun N h34=>sm<|sm ?_
  refine s0 (hop_beq (fun w=>by kernel_rfl) rfl rfl) ?_
  refine sm ?_
  first
  | refine hq_g 127 3 126 true _ (fun hb=>hol_load ty_26 rfl (by first | exact Nat.le_of_ble_eq_true rfl | (simp at hb;first | omega | (dsimp only;omega) | (simp <;> omega)) | omega | (dsimp only;omega)) (by first | exact Nat.le_of_ble_eq_true rfl | (simp at hb;first | omega | (dsimp only;omega) | (simp <;> omega)) | omega | (dsimp only;omega)) (fun h=>(by first | rfl | cases h))) rfl rfl rfl rfl (pre1 rfl) rfl rfl rfl ?_
  | refine hq_g2 127 3 126 _ _ true _ (fun hb=>hol_load ty_26 rfl (by first | exact Nat.le_of_ble_eq_true rfl | (simp at hb;first | omega | (dsimp only;omega) | (simp <;> omega)) | omega | (dsimp only;omega)) (by first | exact Nat.le_of_ble_eq_true rfl | (simp at hb;first | omega | (dsimp only;omega) | (simp <;> omega)) | omega | (dsimp only;omega)) (fun h=>(by first | rfl | cases h))) rfl rfl rfl rfl (pre1 rfl) rfl rfl rfl ?_
  | refine stg 126 (fun hb=>hop_load_fp ty_26 rfl (by first | exact Nat.le_of_ble_eq_true rfl | (simp at hb;first | omega | (dsimp only;omega) | (simp <;> omega)) | omega | (dsimp only;omega)) (fun h=>(by first | rfl | cases h))) rfl rfl rfl rfl rfl ?_
  | refine sth 126 (fun hb=>hop_load_fp ty_26 rfl (by first | exact Nat.le_of_ble_eq_true rfl | (simp at hb;first | omega | (dsimp only;omega) | (simp <;> omega)) | omega | (dsimp only;omega)) (fun h=>(by first | rfl | cases h))) rfl rfl rfl rfl rfl ?_
  first
  | refine hq_g 128 3 126 true _ (fun hb=>hol_load ty_26 rfl (by first | exact Nat.le_of_ble_eq_true rfl | (simp at hb;first | omega | (dsimp only;omega) | (simp <;> omega)) | omega | (dsimp only;omega)) (by first | exact Nat.le_of_ble_eq_true rfl | (simp at hb;first | omega | (dsimp only;omega) | (simp <;> omega)) | omega | (dsimp only;omega)) (fun h=>(by first | rfl | cases h))) rfl rfl rfl rfl (pre1 rfl) rfl rfl rfl ?_
  | refine hq_g2 128 3 126 _ _ true _ (fun hb=>hol_load ty_26 rfl (by first | exact Nat.le_of_ble_eq_true rfl | (simp at hb;first | omega | (dsimp only;omega) | (simp <;> omega)) | omega | (dsimp only;omega)) (by first | exact Nat.le_of_ble_eq_true rfl | (simp at hb;first | omega | (dsimp only;omega) | (simp <;> omega)) | omega | (dsimp only;omega)) (fun h=>(by first | rfl | cases h))) rfl rfl rfl rfl (pre1 rfl) rfl rfl rfl ?_
  | refine stg 126 (fun hb=>hop_load_fp ty_26 rfl (by first | exact Nat.le_of_ble_eq_true rfl | (simp at hb;first | omega | (dsimp only;omega) | (simp <;> omega)) | omega | (dsimp only;omega)) (fun h=>(by first | rfl | cases h))) rfl rfl rfl rfl rfl ?_
  | refine sth 126 (fun hb=>hop_load_fp ty_26 rfl (by first | exact Nat.le_of_ble_eq_true rfl | (simp at hb;first | omega | (dsimp only;omega) | (simp <;> omega)) | omega | (dsimp only;omega)) (fun h=>(by first | rfl | cases h))) rfl rfl rfl rfl rfl ?_
  first
  | refine stg 126 (fun hb=>hop_call0 (xs:=[_,_]) (same25q_h ((byV (routeV L []) s).getD St.none) ((byV (routeV L []) s).getD St.none) (byV_len ls) (byV_len ls)) ⟨rfl,⟨rfl,trivial⟩⟩ ⟨(Fz.eq rfl),⟨(Fz.eq rfl),trivial⟩⟩) rfl rfl rfl rfl rfl ?_
  | refine sth 126 (fun hb=>hop_call0 (xs:=[_,_]) (same25q_h ((byV (routeV L []) s).getD St.none) ((byV (routeV L []) s).getD St.none) (byV_len ls) (byV_len ls)) ⟨rfl,⟨rfl,trivial⟩⟩ ⟨(Fz.eq rfl),⟨(Fz.eq rfl),trivial⟩⟩) rfl rfl rfl rfl rfl ?_
  first
  | refine hq_p 130 (hstep_and _ _ rfl rfl rfl) rfl rfl rfl ?_
  | refine hq_p 130 (hstep_or _ _ rfl rfl rfl) rfl rfl rfl ?_
  | refine hq_p 130 (hstep_ite _ _ _ rfl rfl rfl) rfl rfl rfl ?_
  | refine hq_p 130 (hstep_pick _ _ _ _ rfl rfl rfl (fun _=>.refl _) (fun _=>.refl _)) rfl rfl rfl ?_
  refine sm ?_
  first
  | refine stg 131 (fun hb=>hop_move rfl) rfl rfl rfl rfl rfl ?_
  | refine sth 131 (fun hb=>hop_move rfl) rfl rfl rfl rfl rfl ?_
  first
  | refine stg 131 (fun hb=>hop_move rfl) rfl rfl rfl rfl rfl ?_
  | refine sth 131 (fun hb=>hop_move rfl) rfl rfl rfl rfl rfl ?_
  first
  | refine stg 131 (fun hb=>hop_beq (fun w=>by kernel_rfl) rfl rfl) rfl rfl rfl rfl rfl ?_
  | refine sth 131 (fun hb=>hop_beq (fun w=>by kernel_rfl) rfl rfl) rfl rfl rfl rfl rfl ?_
  first
  | refine hq_p 135 (hstep_and _ _ rfl rfl rfl) rfl rfl rfl ?_
  | refine hq_p 135 (hstep_or _ _ rfl rfl rfl) rfl rfl rfl ?_
  | refine hq_p 135 (hstep_ite _ _ _ rfl rfl rfl) rfl rfl rfl ?_
  | refine hq_p 135 (hstep_pick _ _ _ _ rfl rfl rfl (fun _=>.refl _) (fun _=>.refl _)) rfl rfl rfl ?_
  refine sm ?_
  first
  | refine hq_g 137 13 136 true _ (fun hb=>hol_load ty_26 rfl (by first | exact Nat.le_of_ble_eq_true rfl | (simp at hb;first | omega | (dsimp only;omega) | (simp <;> omega)) | omega | (dsimp only;omega)) (by first | exact Nat.le_of_ble_eq_true rfl | (simp at hb;first | omega | (dsimp only;omega) | (simp <;> omega)) | omega | (dsimp only;omega)) (fun h=>(by first | rfl | cases h))) rfl rfl rfl rfl (pre1 rfl) rfl rfl rfl ?_
  | refine hq_g2 137 13 136 _ _ true _ (fun hb=>hol_load ty_26 rfl (by first | exact Nat.le_of_ble_eq_true rfl | (simp at hb;first | omega | (dsimp only;omega) | (simp <;> omega)) | omega | (dsimp only;omega)) (by first | exact Nat.le_of_ble_eq_true rfl | (simp at hb;first | omega | (dsimp only;omega) | (simp <;> omega)) | omega | (dsimp only;omega)) (fun h=>(by first | rfl | cases h))) rfl rfl rfl rfl (pre1 rfl) rfl rfl rfl ?_
  | refine stg 136 (fun hb=>hop_load_fp ty_26 rfl (by first | exact Nat.le_of_ble_eq_true rfl | (simp at hb;first | omega | (dsimp only;omega) | (simp <;> omega)) | omega | (dsimp only;omega)) (fun h=>(by first | rfl | cases h))) rfl rfl rfl rfl rfl ?_
  | refine sth 136 (fun hb=>hop_load_fp ty_26 rfl (by first | exact Nat.le_of_ble_eq_true rfl | (simp at hb;first | omega | (dsimp only;omega) | (simp <;> omega)) | omega | (dsimp only;omega)) (fun h=>(by first | rfl | cases h))) rfl rfl rfl rfl rfl ?_
  first
  | refine hq_g 138 13 136 true _ (fun hb=>hol_load ty_26 rfl (by first | exact Nat.le_of_ble_eq_true rfl | (simp at hb;first | omega | (dsimp only;omega) | (simp <;> omega)) | omega | (dsimp only;omega)) (by first | exact Nat.le_of_ble_eq_true rfl | (simp at hb;first | omega | (dsimp only;omega) | (simp <;> omega)) | omega | (dsimp only;omega)) (fun h=>(by first | rfl | cases h))) rfl rfl rfl rfl (pre1 rfl) rfl rfl rfl ?_
  | refine hq_g2 138 13 136 _ _ true _ (fun hb=>hol_load ty_26 rfl (by first | exact Nat.le_of_ble_eq_true rfl | (simp at hb;first | omega | (dsimp only;omega) | (simp <;> omega)) | omega | (dsimp only;omega)) (by first | exact Nat.le_of_ble_eq_true rfl | (simp at hb;first | omega | (dsimp only;omega) | (simp <;> omega)) | omega | (dsimp only;omega)) (fun h=>(by first | rfl | cases h))) rfl rfl rfl rfl (pre1 rfl) rfl rfl rfl ?_
  | refine stg 136 (fun hb=>hop_load_fp ty_26 rfl (by first | exact Nat.le_of_ble_eq_true rfl | (simp at hb;first | omega | (dsimp only;omega) | (simp <;> omega)) | omega | (dsimp only;omega)) (fun h=>(by first | rfl | cases h))) rfl rfl rfl rfl rfl ?_
  | refine sth 136 (fun hb=>hop_load_fp ty_26 rfl (by first | exact Nat.le_of_ble_eq_true rfl | (simp at hb;first | omega | (dsimp only;omega) | (simp <;> omega)) | omega | (dsimp only;omega)) (fun h=>(by first | rfl | cases h))) rfl rfl rfl rfl rfl ?_
  first
  | refine stg 136 (fun hb=>hop_call0 (xs:=[_,_]) (same25q_h ((byV (routeV L []) s).getD St.none) ((byV (routeV L []) s).getD St.none) (byV_len ls) (byV_len ls)) ⟨rfl,⟨rfl,trivial⟩⟩ ⟨(Fz.eq rfl),⟨(Fz.eq rfl),trivial⟩⟩) rfl rfl rfl rfl rfl ?_
  | refine sth 136 (fun hb=>hop_call0 (xs:=[_,_]) (same25q_h ((byV (routeV L []) s).getD St.none) ((byV (routeV L []) s).getD St.none) (byV_len ls) (byV_len ls)) ⟨rfl,⟨rfl,trivial⟩⟩ ⟨(Fz.eq rfl),⟨(Fz.eq rfl),trivial⟩⟩) rfl rfl rfl rfl rfl ?_
  first
  | refine hq_p 140 (hstep_and _ _ rfl rfl rfl) rfl rfl rfl ?_
  | refine hq_p 140 (hstep_or _ _ rfl rfl rfl) rfl rfl rfl ?_
  | refine hq_p 140 (hstep_ite _ _ _ rfl rfl rfl) rfl rfl rfl ?_
  | refine hq_p 140 (hstep_pick _ _ _ _ rfl rfl rfl (fun _=>.refl _) (fun _=>.refl _)) rfl rfl rfl ?_
  refine sm ?_
  first
  | refine stg 141 (fun hb=>hop_move rfl) rfl rfl rfl rfl rfl ?_
  | refine sth 141 (fun hb=>hop_move rfl) rfl rfl rfl rfl rfl ?_
  first
  | refine stg 141 (fun hb=>hop_not rfl) rfl rfl rfl rfl rfl ?_
  | refine sth 141 (fun hb=>hop_not rfl) rfl rfl rfl rfl rfl ?_
  first
  | refine hq_p 144 (hstep_and _ _ rfl rfl rfl) rfl rfl rfl ?_
  | refine hq_p 144 (hstep_or _ _ rfl rfl rfl) rfl rfl rfl ?_
  | refine hq_p 144 (hstep_ite _ _ _ rfl rfl rfl) rfl rfl rfl ?_
  | refine hq_p 144 (hstep_pick _ _ _ _ rfl rfl rfl (fun _=>.refl _) (fun _=>.refl _)) rfl rfl rfl ?_
  refine sm ?_
  first
  | refine stg 145 (fun hb=>hop_call0 (xs:=[]) (live26_h) trivial trivial) rfl rfl rfl rfl rfl ?_
  | refine sth 145 (fun hb=>hop_call0 (xs:=[]) (live26_h) trivial trivial) rfl rfl rfl rfl rfl ?_
  first
  | refine hq_p 147 (hstep_and _ _ rfl rfl rfl) rfl rfl rfl ?_
  | refine hq_p 147 (hstep_or _ _ rfl rfl rfl) rfl rfl rfl ?_
  | refine hq_p 147 (hstep_ite _ _ _ rfl rfl rfl) rfl rfl rfl ?_
  | refine hq_p 147 (hstep_pick _ _ _ _ rfl rfl rfl (fun _=>.refl _) (fun _=>.refl _)) rfl rfl rfl ?_
  refine sa ?_
  refine nu ?_
  refine h34 _<|hw_ret ?_
  refine hq_ret1 rfl (rval_tmp rfl) [] rfl pre0 ?_
  exact Fz.eq (congrArg (fun b=>boolV b) (by simp))
 ·skip
  have hrok:=rtok_of hrt hmk
  refine hw_region<|sm<|sm ?_
  first
  | refine hq_ 40 (hop_len_sl (T:=37) rfl (elOf_spec el_37).1 rfl) rfl rfl pre0 rfl rfl ?_
  | refine hq_ 40 (hop_len_os (T:=37) rfl (elOf_spec el_37).1 rfl) rfl rfl pre0 rfl rfl ?_
  | refine hq_ 40 (hop_len_nil (T:=37) rfl (elOf_spec el_37).1 rfl) rfl rfl pre0 rfl rfl ?_
  refine s0 hli ?_
  refine snl h14 ?_
  refine wc (fun hc2=>?_) (fun hc2=>?_)
  ·have hr2:=hc2;(try simp only [hcs,Int.reduceToNat] at hc2)
   refine hw_skip<|h13 _<|hw_seq fun Nh35 h35=>hw_block<|hw_seq fun Nh36 h36=>srg fun N h37=>sm<|sm ?_
   first
   | refine hq_ 46 (hop_ia_sl el_37 rfl rfl (by first | exact Nat.le_of_ble_eq_true rfl | omega | (dsimp only;omega) | (simp <;> omega)) (by first | exact Nat.le_of_ble_eq_true rfl | omega | (dsimp only;omega) | (simp <;> omega)) (by first | exact Nat.le_of_ble_eq_true rfl | omega | (dsimp only;omega) | (simp <;> omega))) rfl rfl pre0 rfl rfl ?_
   | refine hq_ 46 (hol_ia_os el_37 rfl rfl (by first | exact Nat.le_of_ble_eq_true rfl | omega | (dsimp only;omega) | (simp <;> omega)) (by first | exact Nat.le_of_ble_eq_true rfl | omega | (dsimp only;omega) | (simp <;> omega))) rfl rfl (pre1 rfl) rfl rfl ?_
   first
   | refine hq_ 47 (hop_fa fd_50_0 rfl) rfl rfl pre0 rfl rfl ?_
   | refine hq_ 47 (hop_fa_fp fd_50_0 rfl (by first | exact Nat.le_of_ble_eq_true rfl | omega | (dsimp only;omega) | (simp <;> omega))) rfl rfl pre0 rfl rfl ?_
   first
   | refine hq_ 48 (HOp.val (v':=rgsV (l.getD i mp0).m) (hol_load ty_48 rfl (by first | exact Nat.le_of_ble_eq_true rfl | omega | (dsimp only;omega) | (simp <;> omega)) (by first | exact Nat.le_of_ble_eq_true rfl | omega | (dsimp only;omega) | (simp <;> omega)) (fun h=>(by first | rfl | cases h))) (rfl)) rfl rfl (pre1 rfl) rfl rfl ?_
   | refine hq_ 48 (HOp.val (v':=rgsV (l.getD i mp0).m) (hop_load_fp ty_48 rfl (by first | exact Nat.le_of_ble_eq_true rfl | omega | (dsimp only;omega) | (simp <;> omega)) (fun h=>(by first | rfl | cases h))) (rfl)) rfl rfl pre0 rfl rfl ?_
   first
   | refine hq_ 49 (hop_len_sl (T:=48) rfl (elOf_spec el_48).1 rfl) rfl rfl pre0 rfl rfl ?_
   | refine hq_ 49 (hop_len_os (T:=48) rfl (elOf_spec el_48).1 rfl) rfl rfl pre0 rfl rfl ?_
   | refine hq_ 49 (hop_len_nil (T:=48) rfl (elOf_spec el_48).1 rfl) rfl rfl pre0 rfl rfl ?_
   refine s0 (hop_gtr rfl rfl) ?_
   refine snl h37 ?_
   refine wc (fun hc3=>?_) (fun hc3=>?_)
   ·have hr3:=hc3;(try simp only [hcs,Int.reduceToNat] at hc3)
    refine srg fun N h38=>?_
    refine s0 (hop_call0 (xs:=[]) (live26_h) trivial trivial) ?_
    refine sa<|snl h38<|hw_ret<|hq_then_ret<|hq_block_ret<|hq_then_ret<|hq_then_ret<|hq_block_ret<|hq_then_ret ?_
    refine hq_ret1 rfl (rval_tmp rfl) [] rfl pre0 ?_
    exact Frz.fz
   have hr3:=hc3;(try simp only [hcs,Int.reduceToNat] at hc3)
   refine hw_skip<|h36 _<|hw_seq fun Nh39 h39=>srg fun N h40=>sm<|sm ?_
   first
   | refine hq_ 54 (hop_ia_sl el_37 rfl rfl (by first | exact Nat.le_of_ble_eq_true rfl | omega | (dsimp only;omega) | (simp <;> omega)) (by first | exact Nat.le_of_ble_eq_true rfl | omega | (dsimp only;omega) | (simp <;> omega)) (by first | exact Nat.le_of_ble_eq_true rfl | omega | (dsimp only;omega) | (simp <;> omega))) rfl rfl pre0 rfl rfl ?_
   | refine hq_ 54 (hol_ia_os el_37 rfl rfl (by first | exact Nat.le_of_ble_eq_true rfl | omega | (dsimp only;omega) | (simp <;> omega)) (by first | exact Nat.le_of_ble_eq_true rfl | omega | (dsimp only;omega) | (simp <;> omega))) rfl rfl (pre1 rfl) rfl rfl ?_
   first
   | refine hq_ 55 (hop_fa fd_50_0 rfl) rfl rfl pre0 rfl rfl ?_
   | refine hq_ 55 (hop_fa_fp fd_50_0 rfl (by first | exact Nat.le_of_ble_eq_true rfl | omega | (dsimp only;omega) | (simp <;> omega))) rfl rfl pre0 rfl rfl ?_
   first
   | refine hq_ 56 (HOp.val (v':=rgsV (l.getD i mp0).m) (hol_load ty_48 rfl (by first | exact Nat.le_of_ble_eq_true rfl | omega | (dsimp only;omega) | (simp <;> omega)) (by first | exact Nat.le_of_ble_eq_true rfl | omega | (dsimp only;omega) | (simp <;> omega)) (fun h=>(by first | rfl | cases h))) (rfl)) rfl rfl (pre1 rfl) rfl rfl ?_
   | refine hq_ 56 (HOp.val (v':=rgsV (l.getD i mp0).m) (hop_load_fp ty_48 rfl (by first | exact Nat.le_of_ble_eq_true rfl | omega | (dsimp only;omega) | (simp <;> omega)) (fun h=>(by first | rfl | cases h))) (rfl)) rfl rfl pre0 rfl rfl ?_
   refine s0 (hop_call0 (xs:=[_]) (right23_h (l.getD i mp0).m) ⟨rfl,trivial⟩ ⟨fe,trivial⟩) ?_
   refine s0 (hop_not rfl) ?_
   refine snl h40 ?_
   refine wc (fun hc4=>?_) (fun hc4=>?_)
   ·have hr4:=hc4;(try simp only [hcs,Int.reduceToNat] at hc4)
    refine hw_exit ?_
    refine hq_then_exit<|hq_block_here<|h35 _<|hw_region<|sm ?_
    first
    | refine hq_ 43 (hop_addi rfl rfl rfl (by first | exact Nat.le_of_ble_eq_true rfl | omega | (dsimp only;omega) | (simp <;> omega)) (by first | exact Nat.le_of_ble_eq_true rfl | omega | (dsimp only;omega) | (simp <;> omega))) rfl rfl pre0 rfl rfl ?_
    | refine hq_ 43 (hop_add rfl rfl) rfl rfl pre0 rfl rfl ?_
    refine sa<|hseq_nil ?_
    exact hL12 ((i+1,L,mir,g2,some gm)) _ _ (by (try dsimp only);exact ⟨by omega,by omega,hrt,hmk,hvn⟩) (by (try dsimp only);omega) (hsub_of rfl (Nat.le_refl _) tsa (hsr rfl (hsr rfl (hsr rfl (hsr rfl (by first | exact HpSub.nil | exact HpSub.cons rfl (OSub.refl _) HpSub.nil))))))
   have hr4:=hc4;(try simp only [hcs,Int.reduceToNat] at hc4)
   have hm:rightM (l.getD i mp0).m=true:=(by simpa using hr4)
   refine hw_skip<|h39 _<|srg fun N h41=>sa<|snl h41<|srg fun N h42=>sa<|snl h42<|hw_seq fun Nh43 h43=>hw_seq fun Nh44 h44=>hd_start ?_
   first
   | refine hd_q 59 (HOp.val (v':=rt24 L mir) (hol_load ty_47 rfl (by first | exact Nat.le_of_ble_eq_true rfl | omega | (dsimp only;omega) | (simp <;> omega)) (by first | exact Nat.le_of_ble_eq_true rfl | omega | (dsimp only;omega) | (simp <;> omega)) (fun h=>(by first | rfl | cases h))) (rfl)) rfl rfl (pre1 rfl) rfl rfl (k':=1) rfl ?_
   | refine hd_q 59 (HOp.val (v':=rt24 L mir) (hop_load_fp ty_47 rfl (by first | exact Nat.le_of_ble_eq_true rfl | omega | (dsimp only;omega) | (simp <;> omega)) (fun h=>(by first | rfl | cases h))) (rfl)) rfl rfl pre0 rfl rfl (k':=1) rfl ?_
   refine dm 2 ?_
   refine dm 3 ?_
   first
   | refine hd_q 62 (hop_ia_sl el_37 rfl rfl (by first | exact Nat.le_of_ble_eq_true rfl | omega | (dsimp only;omega) | (simp <;> omega)) (by first | exact Nat.le_of_ble_eq_true rfl | omega | (dsimp only;omega) | (simp <;> omega)) (by first | exact Nat.le_of_ble_eq_true rfl | omega | (dsimp only;omega) | (simp <;> omega))) rfl rfl pre0 rfl rfl (k':=4) rfl ?_
   | refine hd_q 62 (hol_ia_os el_37 rfl rfl (by first | exact Nat.le_of_ble_eq_true rfl | omega | (dsimp only;omega) | (simp <;> omega)) (by first | exact Nat.le_of_ble_eq_true rfl | omega | (dsimp only;omega) | (simp <;> omega))) rfl rfl (pre1 rfl) rfl rfl (k':=4) rfl ?_
   first
   | refine hd_q 63 (hop_fa fd_50_1 rfl) rfl rfl pre0 rfl rfl (k':=5) rfl ?_
   | refine hd_q 63 (hop_fa_fp fd_50_1 rfl (by first | exact Nat.le_of_ble_eq_true rfl | omega | (dsimp only;omega) | (simp <;> omega))) rfl rfl pre0 rfl rfl (k':=5) rfl ?_
   first
   | refine hd_q 64 (HOp.val (v':=intV (l.getD i mp0).of) (hol_load ty_3 rfl (by first | exact Nat.le_of_ble_eq_true rfl | omega | (dsimp only;omega) | (simp <;> omega)) (by first | exact Nat.le_of_ble_eq_true rfl | omega | (dsimp only;omega) | (simp <;> omega)) (fun h=>(by first | rfl | cases h))) (rfl)) rfl rfl (pre1 rfl) rfl rfl (k':=6) rfl ?_
   | refine hd_q 64 (HOp.val (v':=intV (l.getD i mp0).of) (hop_load_fp ty_3 rfl (by first | exact Nat.le_of_ble_eq_true rfl | omega | (dsimp only;omega) | (simp <;> omega)) (fun h=>(by first | rfl | cases h))) (rfl)) rfl rfl pre0 rfl rfl (k':=6) rfl ?_
   refine d0 7 (hop_call0 (xs:=[_,_]) (free_h L mir (l.getD i mp0).of) ⟨rfl,⟨rfl,trivial⟩⟩ ⟨fe,⟨fe,trivial⟩⟩) ?_
   refine hd_nil kr kr (c':=c+7) rfl ?_
   refine h44 _ ?_
   refine wc (fun hc5=>?_) (fun hc5=>?_)
   ·have hr5:=hc5;(try simp only [hcs,Int.reduceToNat] at hc5)
    have hfr:=free_lk hmk hc5
    refine srg fun N h45=>sm<|sm ?_
    first
    | refine hq_ 68 (hop_ia_sl el_37 rfl rfl (by first | exact Nat.le_of_ble_eq_true rfl | omega | (dsimp only;omega) | (simp <;> omega)) (by first | exact Nat.le_of_ble_eq_true rfl | omega | (dsimp only;omega) | (simp <;> omega)) (by first | exact Nat.le_of_ble_eq_true rfl | omega | (dsimp only;omega) | (simp <;> omega))) rfl rfl pre0 rfl rfl ?_
    | refine hq_ 68 (hol_ia_os el_37 rfl rfl (by first | exact Nat.le_of_ble_eq_true rfl | omega | (dsimp only;omega) | (simp <;> omega)) (by first | exact Nat.le_of_ble_eq_true rfl | omega | (dsimp only;omega) | (simp <;> omega))) rfl rfl (pre1 rfl) rfl rfl ?_
    first
    | refine hq_ 69 (hop_fa fd_50_1 rfl) rfl rfl pre0 rfl rfl ?_
    | refine hq_ 69 (hop_fa_fp fd_50_1 rfl (by first | exact Nat.le_of_ble_eq_true rfl | omega | (dsimp only;omega) | (simp <;> omega))) rfl rfl pre0 rfl rfl ?_
    first
    | refine hq_ 70 (HOp.val (v':=intV (l.getD i mp0).of) (hol_load ty_3 rfl (by first | exact Nat.le_of_ble_eq_true rfl | omega | (dsimp only;omega) | (simp <;> omega)) (by first | exact Nat.le_of_ble_eq_true rfl | omega | (dsimp only;omega) | (simp <;> omega)) (fun h=>(by first | rfl | cases h))) (rfl)) rfl rfl (pre1 rfl) rfl rfl ?_
    | refine hq_ 70 (HOp.val (v':=intV (l.getD i mp0).of) (hop_load_fp ty_3 rfl (by first | exact Nat.le_of_ble_eq_true rfl | omega | (dsimp only;omega) | (simp <;> omega)) (fun h=>(by first | rfl | cases h))) (rfl)) rfl rfl pre0 rfl rfl ?_
    refine sa<|snl h45<|hw_region<|sm<|sm<|sm ?_
    first
    | refine hq_ 74 (hop_ia_sl el_37 rfl rfl (by first | exact Nat.le_of_ble_eq_true rfl | omega | (dsimp only;omega) | (simp <;> omega)) (by first | exact Nat.le_of_ble_eq_true rfl | omega | (dsimp only;omega) | (simp <;> omega)) (by first | exact Nat.le_of_ble_eq_true rfl | omega | (dsimp only;omega) | (simp <;> omega))) rfl rfl pre0 rfl rfl ?_
    | refine hq_ 74 (hol_ia_os el_37 rfl rfl (by first | exact Nat.le_of_ble_eq_true rfl | omega | (dsimp only;omega) | (simp <;> omega)) (by first | exact Nat.le_of_ble_eq_true rfl | omega | (dsimp only;omega) | (simp <;> omega))) rfl rfl (pre1 rfl) rfl rfl ?_
    first
    | refine hq_ 75 (hop_fa fd_50_0 rfl) rfl rfl pre0 rfl rfl ?_
    | refine hq_ 75 (hop_fa_fp fd_50_0 rfl (by first | exact Nat.le_of_ble_eq_true rfl | omega | (dsimp only;omega) | (simp <;> omega))) rfl rfl pre0 rfl rfl ?_
    first
    | refine hq_ 76 (HOp.val (v':=rgsV (l.getD i mp0).m) (hol_load ty_48 rfl (by first | exact Nat.le_of_ble_eq_true rfl | omega | (dsimp only;omega) | (simp <;> omega)) (by first | exact Nat.le_of_ble_eq_true rfl | omega | (dsimp only;omega) | (simp <;> omega)) (fun h=>(by first | rfl | cases h))) (rfl)) rfl rfl (pre1 rfl) rfl rfl ?_
    | refine hq_ 76 (HOp.val (v':=rgsV (l.getD i mp0).m) (hop_load_fp ty_48 rfl (by first | exact Nat.le_of_ble_eq_true rfl | omega | (dsimp only;omega) | (simp <;> omega)) (fun h=>(by first | rfl | cases h))) (rfl)) rfl rfl pre0 rfl rfl ?_
    refine sm ?_
    refine hf_callR 78 (xs:=[_,_,_]) (pre:=[(9101,_),(9102,_),(9103,_)]) (mirrM_h _ 3 g2 gm L mir om (l.getD i mp0).m hm (l.getD i mp0).of hfr.1 hfr.2 (mirOk_no hmk)) ⟨rfl,⟨rfl,⟨rfl,trivial⟩⟩⟩ (preC rfl (preC rfl (preC rfl pre0))) rfl rfl (fun g5 c5 hx5=>?_)
    (try dsimp only)
    refine sa<|snl h43<|hw_seq fun Nh46 h46=>srg fun N h47=>sm ?_
    refine s0 (hop_neq rfl rfl) ?_
    refine snl h47 ?_
    refine wc (fun hc6=>?_) (fun hc6=>?_)
    ·have hr6:=hc6;(try simp only [hcs,Int.reduceToNat] at hc6)
     exfalso;simp at hr6
    have hr6:=hc6;(try simp only [hcs,Int.reduceToNat] at hc6)
    refine hw_skip<|h46 _<|hd_start ?_
    first
    | refine hd_q 89 (HOp.val (v':=rt24 L mir) (hol_load ty_47 rfl (by first | exact Nat.le_of_ble_eq_true rfl | omega | (dsimp only;omega) | (simp <;> omega)) (by first | exact Nat.le_of_ble_eq_true rfl | omega | (dsimp only;omega) | (simp <;> omega)) (fun h=>(by first | rfl | cases h))) (rfl)) rfl rfl (pre1 rfl) rfl rfl (k':=1) rfl ?_
    | refine hd_q 89 (HOp.val (v':=rt24 L mir) (hop_load_fp ty_47 rfl (by first | exact Nat.le_of_ble_eq_true rfl | omega | (dsimp only;omega) | (simp <;> omega)) (fun h=>(by first | rfl | cases h))) (rfl)) rfl rfl pre0 rfl rfl (k':=1) rfl ?_
    refine dm 2 ?_
    refine dm 3 ?_
    first
    | refine hd_q 92 (hop_ia_sl el_37 rfl rfl (by first | exact Nat.le_of_ble_eq_true rfl | omega | (dsimp only;omega) | (simp <;> omega)) (by first | exact Nat.le_of_ble_eq_true rfl | omega | (dsimp only;omega) | (simp <;> omega)) (by first | exact Nat.le_of_ble_eq_true rfl | omega | (dsimp only;omega) | (simp <;> omega))) rfl rfl pre0 rfl rfl (k':=4) rfl ?_
    | refine hd_q 92 (hol_ia_os el_37 rfl rfl (by first | exact Nat.le_of_ble_eq_true rfl | omega | (dsimp only;omega) | (simp <;> omega)) (by first | exact Nat.le_of_ble_eq_true rfl | omega | (dsimp only;omega) | (simp <;> omega))) rfl rfl (pre1 rfl) rfl rfl (k':=4) rfl ?_
    first
    | refine hd_q 93 (hop_fa fd_50_0 rfl) rfl rfl pre0 rfl rfl (k':=5) rfl ?_
    | refine hd_q 93 (hop_fa_fp fd_50_0 rfl (by first | exact Nat.le_of_ble_eq_true rfl | omega | (dsimp only;omega) | (simp <;> omega))) rfl rfl pre0 rfl rfl (k':=5) rfl ?_
    first
    | refine hd_q 94 (HOp.val (v':=rgsV (l.getD i mp0).m) (hol_load ty_48 rfl (by first | exact Nat.le_of_ble_eq_true rfl | omega | (dsimp only;omega) | (simp <;> omega)) (by first | exact Nat.le_of_ble_eq_true rfl | omega | (dsimp only;omega) | (simp <;> omega)) (fun h=>(by first | rfl | cases h))) (rfl)) rfl rfl (pre1 rfl) rfl rfl (k':=6) rfl ?_
    | refine hd_q 94 (HOp.val (v':=rgsV (l.getD i mp0).m) (hop_load_fp ty_48 rfl (by first | exact Nat.le_of_ble_eq_true rfl | omega | (dsimp only;omega) | (simp <;> omega)) (fun h=>(by first | rfl | cases h))) (rfl)) rfl rfl pre0 rfl rfl (k':=6) rfl ?_
    refine dm 7 ?_
    refine d0 8 (hop_call0 (xs:=[_,_,_]) (add24_h L mir (mirS mir (l.getD i mp0).of L.length) om hmk (l.getD i mp0).m hm (l.getD i mp0).of (.inr ⟨hc5,rfl⟩)) ⟨rfl,⟨rfl,⟨rfl,trivial⟩⟩⟩ ⟨fe,⟨fe,⟨fe,trivial⟩⟩⟩) ?_
    refine dm 9 ?_
    refine d0 10 hex ?_
    refine d0 11 hex ?_
    first
    | refine hd_s1 (hol_storeW ty_47 rfl rfl rfl rfl) rfl rfl (pre1 rfl) (k':=12) rfl ?_
    | refine hd_s1 (hol_store ty_47 rfl rfl rfl rfl (by first | exact Nat.le_of_ble_eq_true rfl | omega | (dsimp only;omega) | (simp <;> omega)) (by first | exact Nat.le_of_ble_eq_true rfl | omega | (dsimp only;omega) | (simp <;> omega)) (by first | exact Nat.le_of_ble_eq_true rfl | omega | (dsimp only;omega) | (simp <;> omega))) rfl rfl (pre1 rfl) (k':=12) rfl ?_
    refine hd_nil kr kr (c':=c5+12) rfl ?_
    refine hq_block<|h35 _<|hw_region<|sm ?_
    first
    | refine hq_ 43 (hop_addi rfl rfl rfl (by first | exact Nat.le_of_ble_eq_true rfl | omega | (dsimp only;omega) | (simp <;> omega)) (by first | exact Nat.le_of_ble_eq_true rfl | omega | (dsimp only;omega) | (simp <;> omega))) rfl rfl pre0 rfl rfl ?_
    | refine hq_ 43 (hop_add rfl rfl) rfl rfl pre0 rfl rfl ?_
    refine sa<|hseq_nil ?_
    exact hL12 ((i+1,L++[(l.getD i mp0).m],mirS mir (l.getD i mp0).of L.length,g5,some gm)) _ _ (by (try dsimp only);exact ⟨by omega,by simp;omega,right_more hrt hm,by rw [List.length_append];exact mirOk_put hmk hfr.1,fun h=>by cases h⟩) (by (try dsimp only);omega) (hsub_of rfl (Nat.le_refl _) tsa (hsr rfl (hsr rfl (hsr rfl (hsr rfl (by first | exact HpSub.nil | exact HpSub.cons rfl (OSub.refl _) HpSub.nil))))))
   have hr5:=hc5;(try simp only [hcs,Int.reduceToNat] at hc5)
   refine hw_region<|sm<|sm<|sm ?_
   first
   | refine hq_ 82 (hop_ia_sl el_37 rfl rfl (by first | exact Nat.le_of_ble_eq_true rfl | omega | (dsimp only;omega) | (simp <;> omega)) (by first | exact Nat.le_of_ble_eq_true rfl | omega | (dsimp only;omega) | (simp <;> omega)) (by first | exact Nat.le_of_ble_eq_true rfl | omega | (dsimp only;omega) | (simp <;> omega))) rfl rfl pre0 rfl rfl ?_
   | refine hq_ 82 (hol_ia_os el_37 rfl rfl (by first | exact Nat.le_of_ble_eq_true rfl | omega | (dsimp only;omega) | (simp <;> omega)) (by first | exact Nat.le_of_ble_eq_true rfl | omega | (dsimp only;omega) | (simp <;> omega))) rfl rfl (pre1 rfl) rfl rfl ?_
   first
   | refine hq_ 83 (hop_fa fd_50_0 rfl) rfl rfl pre0 rfl rfl ?_
   | refine hq_ 83 (hop_fa_fp fd_50_0 rfl (by first | exact Nat.le_of_ble_eq_true rfl | omega | (dsimp only;omega) | (simp <;> omega))) rfl rfl pre0 rfl rfl ?_
   first
   | refine hq_ 84 (HOp.val (v':=rgsV (l.getD i mp0).m) (hol_load ty_48 rfl (by first | exact Nat.le_of_ble_eq_true rfl | omega | (dsimp only;omega) | (simp <;> omega)) (by first | exact Nat.le_of_ble_eq_true rfl | omega | (dsimp only;omega) | (simp <;> omega)) (fun h=>(by first | rfl | cases h))) (rfl)) rfl rfl (pre1 rfl) rfl rfl ?_
   | refine hq_ 84 (HOp.val (v':=rgsV (l.getD i mp0).m) (hop_load_fp ty_48 rfl (by first | exact Nat.le_of_ble_eq_true rfl | omega | (dsimp only;omega) | (simp <;> omega)) (fun h=>(by first | rfl | cases h))) (rfl)) rfl rfl pre0 rfl rfl ?_
   refine hf_callR 85 (xs:=[_,_]) (pre:=[(9101,_),(9102,_),(9103,_)]) (addM_h _ 3 g2 gm L mir om (l.getD i mp0).m hm) ⟨rfl,⟨rfl,trivial⟩⟩ (preC rfl (preC rfl (preC rfl pre0))) rfl rfl (fun g5 c6 hx6=>?_)
   (try dsimp only)
   refine sa<|snl h43<|hw_seq fun Nh48 h48=>srg fun N h49=>sm ?_
   refine s0 (hop_neq rfl rfl) ?_
   refine snl h49 ?_
   refine wc (fun hc6=>?_) (fun hc6=>?_)
   ·have hr6:=hc6;(try simp only [hcs,Int.reduceToNat] at hc6)
    exfalso;simp at hr6
   have hr6:=hc6;(try simp only [hcs,Int.reduceToNat] at hc6)
   refine hw_skip<|h48 _<|hd_start ?_
   first
   | refine hd_q 89 (HOp.val (v':=rt24 L mir) (hol_load ty_47 rfl (by first | exact Nat.le_of_ble_eq_true rfl | omega | (dsimp only;omega) | (simp <;> omega)) (by first | exact Nat.le_of_ble_eq_true rfl | omega | (dsimp only;omega) | (simp <;> omega)) (fun h=>(by first | rfl | cases h))) (rfl)) rfl rfl (pre1 rfl) rfl rfl (k':=1) rfl ?_
   | refine hd_q 89 (HOp.val (v':=rt24 L mir) (hop_load_fp ty_47 rfl (by first | exact Nat.le_of_ble_eq_true rfl | omega | (dsimp only;omega) | (simp <;> omega)) (fun h=>(by first | rfl | cases h))) (rfl)) rfl rfl pre0 rfl rfl (k':=1) rfl ?_
   refine dm 2 ?_
   refine dm 3 ?_
   first
   | refine hd_q 92 (hop_ia_sl el_37 rfl rfl (by first | exact Nat.le_of_ble_eq_true rfl | omega | (dsimp only;omega) | (simp <;> omega)) (by first | exact Nat.le_of_ble_eq_true rfl | omega | (dsimp only;omega) | (simp <;> omega)) (by first | exact Nat.le_of_ble_eq_true rfl | omega | (dsimp only;omega) | (simp <;> omega))) rfl rfl pre0 rfl rfl (k':=4) rfl ?_
   | refine hd_q 92 (hol_ia_os el_37 rfl rfl (by first | exact Nat.le_of_ble_eq_true rfl | omega | (dsimp only;omega) | (simp <;> omega)) (by first | exact Nat.le_of_ble_eq_true rfl | omega | (dsimp only;omega) | (simp <;> omega))) rfl rfl (pre1 rfl) rfl rfl (k':=4) rfl ?_
   first
   | refine hd_q 93 (hop_fa fd_50_0 rfl) rfl rfl pre0 rfl rfl (k':=5) rfl ?_
   | refine hd_q 93 (hop_fa_fp fd_50_0 rfl (by first | exact Nat.le_of_ble_eq_true rfl | omega | (dsimp only;omega) | (simp <;> omega))) rfl rfl pre0 rfl rfl (k':=5) rfl ?_
   first
   | refine hd_q 94 (HOp.val (v':=rgsV (l.getD i mp0).m) (hol_load ty_48 rfl (by first | exact Nat.le_of_ble_eq_true rfl | omega | (dsimp only;omega) | (simp <;> omega)) (by first | exact Nat.le_of_ble_eq_true rfl | omega | (dsimp only;omega) | (simp <;> omega)) (fun h=>(by first | rfl | cases h))) (rfl)) rfl rfl (pre1 rfl) rfl rfl (k':=6) rfl ?_
   | refine hd_q 94 (HOp.val (v':=rgsV (l.getD i mp0).m) (hop_load_fp ty_48 rfl (by first | exact Nat.le_of_ble_eq_true rfl | omega | (dsimp only;omega) | (simp <;> omega)) (fun h=>(by first | rfl | cases h))) (rfl)) rfl rfl pre0 rfl rfl (k':=6) rfl ?_
   refine dm 7 ?_
   refine d0 8 (hop_call0 (xs:=[_,_,_]) (add24_h L mir mir om hmk (l.getD i mp0).m hm (-1) (.inl ⟨rfl,rfl⟩)) ⟨rfl,⟨rfl,⟨rfl,trivial⟩⟩⟩ ⟨fe,⟨fe,⟨fe,trivial⟩⟩⟩) ?_
   refine dm 9 ?_
   refine d0 10 hex ?_
   refine d0 11 hex ?_
   first
   | refine hd_s1 (hol_storeW ty_47 rfl rfl rfl rfl) rfl rfl (pre1 rfl) (k':=12) rfl ?_
   | refine hd_s1 (hol_store ty_47 rfl rfl rfl rfl (by first | exact Nat.le_of_ble_eq_true rfl | omega | (dsimp only;omega) | (simp <;> omega)) (by first | exact Nat.le_of_ble_eq_true rfl | omega | (dsimp only;omega) | (simp <;> omega)) (by first | exact Nat.le_of_ble_eq_true rfl | omega | (dsimp only;omega) | (simp <;> omega))) rfl rfl (pre1 rfl) (k':=12) rfl ?_
   refine hd_nil kr kr (c':=c6+12) rfl ?_
   refine hq_block<|h35 _<|hw_region<|sm ?_
   first
   | refine hq_ 43 (hop_addi rfl rfl rfl (by first | exact Nat.le_of_ble_eq_true rfl | omega | (dsimp only;omega) | (simp <;> omega)) (by first | exact Nat.le_of_ble_eq_true rfl | omega | (dsimp only;omega) | (simp <;> omega))) rfl rfl pre0 rfl rfl ?_
   | refine hq_ 43 (hop_add rfl rfl) rfl rfl pre0 rfl rfl ?_
   refine sa<|hseq_nil ?_
   exact hL12 ((i+1,L++[(l.getD i mp0).m],mir,g5,some gm)) _ _ (by (try dsimp only);exact ⟨by omega,by simp;omega,right_more hrt hm,by rw [List.length_append];exact mirOk_more hmk,hvn⟩) (by (try dsimp only);omega) (hsub_of rfl (Nat.le_refl _) tsa (hsr rfl (hsr rfl (hsr rfl (hsr rfl (by first | exact HpSub.nil | exact HpSub.cons rfl (OSub.refl _) HpSub.nil))))))
  have hr2:=hc2;(try simp only [hcs,Int.reduceToNat] at hc2)
  refine hw_exit ?_
  refine hq_then_exit<|hq_then_exit<|hq_block_here<|h10 _<|srg fun N h50=>?_
  first
  | refine hq_ 100 (hol_load ty_26 rfl (by first | exact Nat.le_of_ble_eq_true rfl | omega | (dsimp only;omega) | (simp <;> omega)) (by first | exact Nat.le_of_ble_eq_true rfl | omega | (dsimp only;omega) | (simp <;> omega)) (fun h=>(by first | rfl | cases h))) rfl rfl (pre1 rfl) rfl rfl ?_
  | refine hq_ 100 (hop_load_fp ty_26 rfl (by first | exact Nat.le_of_ble_eq_true rfl | omega | (dsimp only;omega) | (simp <;> omega)) (fun h=>(by first | rfl | cases h))) rfl rfl pre0 rfl rfl ?_
  refine sm ?_
  refine hf_callR 102 (xs:=[_,_]) (pre:=[(9101,_),(9102,_),(9103,_)]) ((optV_q _▸thrM_h 3 g2 gm L mir om hrok s ls.1 ls.2 rfl) _) ⟨rfl,⟨rfl,trivial⟩⟩ (preC rfl (preC rfl (preC rfl pre0))) rfl rfl (fun x7 c7 hx7=>?_)
  (try dsimp only)
  refine sm ?_
  refine s0 hex ?_
  refine s0 hex ?_
  refine hm_1 12 (hop_alloc (id:=12) (sz:=10) zc_26 rfl rfl omx omx) rfl rfl pre0 rfl rfl (c':=c7+1) rfl ?_
  first
  | refine hm_s1 (hol_storeW ty_26 rfl rfl rfl rfl) rfl rfl (pre1 rfl) (c':=c7+2) rfl ?_
  | refine hm_s1 (hol_store ty_26 rfl rfl rfl rfl (by first | exact Nat.le_of_ble_eq_true rfl | omega | (dsimp only;omega) | (simp <;> omega)) (by first | exact Nat.le_of_ble_eq_true rfl | omega | (dsimp only;omega) | (simp <;> omega)) (by first | exact Nat.le_of_ble_eq_true rfl | omega | (dsimp only;omega) | (simp <;> omega))) rfl rfl (pre1 rfl) (c':=c7+2) rfl ?_
  refine sa<|snl h50<|srg fun N h51=>?_
  first
  | refine hq_ 106 (hol_load ty_26 rfl (by first | exact Nat.le_of_ble_eq_true rfl | omega | (dsimp only;omega) | (simp <;> omega)) (by first | exact Nat.le_of_ble_eq_true rfl | omega | (dsimp only;omega) | (simp <;> omega)) (fun h=>(by first | rfl | cases h))) rfl rfl (pre1 rfl) rfl rfl ?_
  | refine hq_ 106 (hop_load_fp ty_26 rfl (by first | exact Nat.le_of_ble_eq_true rfl | omega | (dsimp only;omega) | (simp <;> omega)) (fun h=>(by first | rfl | cases h))) rfl rfl pre0 rfl rfl ?_
  first
  | refine hq_ 107 (HOp.val (v':=rt24 L mir) (hol_load ty_47 rfl (by first | exact Nat.le_of_ble_eq_true rfl | omega | (dsimp only;omega) | (simp <;> omega)) (by first | exact Nat.le_of_ble_eq_true rfl | omega | (dsimp only;omega) | (simp <;> omega)) (fun h=>(by first | rfl | cases h))) (rfl)) rfl rfl (pre1 rfl) rfl rfl ?_
  | refine hq_ 107 (HOp.val (v':=rt24 L mir) (hop_load_fp ty_47 rfl (by first | exact Nat.le_of_ble_eq_true rfl | omega | (dsimp only;omega) | (simp <;> omega)) (fun h=>(by first | rfl | cases h))) (rfl)) rfl rfl pre0 rfl rfl ?_
  refine s0 (hop_call0 (xs:=[_,_]) (thr26_q L mir om hrok s ls) ⟨rfl,⟨rfl,trivial⟩⟩ ⟨fe,⟨fe,trivial⟩⟩) ?_
  refine sm ?_
  refine s0 hex ?_
  refine s0 hex ?_
  refine hm_1 14 (hop_alloc (id:=14) (sz:=10) zc_26 rfl rfl omx omx) rfl rfl pre0 rfl rfl (c':=c7+3) rfl ?_
  first
  | refine hm_s1 (hol_storeW ty_26 rfl rfl rfl rfl) rfl rfl (pre1 rfl) (c':=c7+4) rfl ?_
  | refine hm_s1 (hol_store ty_26 rfl rfl rfl rfl (by first | exact Nat.le_of_ble_eq_true rfl | omega | (dsimp only;omega) | (simp <;> omega)) (by first | exact Nat.le_of_ble_eq_true rfl | omega | (dsimp only;omega) | (simp <;> omega)) (by first | exact Nat.le_of_ble_eq_true rfl | omega | (dsimp only;omega) | (simp <;> omega))) rfl rfl (pre1 rfl) (c':=c7+4) rfl ?_
  refine sa<|snl h51<|srg fun N h52=>?_
  first
  | refine hq_ 112 (hol_load ty_26 rfl (by first | exact Nat.le_of_ble_eq_true rfl | omega | (dsimp only;omega) | (simp <;> omega)) (by first | exact Nat.le_of_ble_eq_true rfl | omega | (dsimp only;omega) | (simp <;> omega)) (fun h=>(by first | rfl | cases h))) rfl rfl (pre1 rfl) rfl rfl ?_
  | refine hq_ 112 (hop_load_fp ty_26 rfl (by first | exact Nat.le_of_ble_eq_true rfl | omega | (dsimp only;omega) | (simp <;> omega)) (fun h=>(by first | rfl | cases h))) rfl rfl pre0 rfl rfl ?_
  refine sm ?_
  refine s0 (hop_makeBound rfl) ?_
  refine hf_callR 115 (xs:=[_,_]) (pre:=[(9101,_),(9102,_),(9103,_)]) ((optV_q _▸byM_h 3 g2 gm L mir om hrok s ls.1 ls.2) _) ⟨rfl,⟨rfl,trivial⟩⟩ (preC rfl (preC rfl (preC rfl pre0))) rfl rfl (fun x8 c8 hx8=>?_)
  (try dsimp only)
  refine sm ?_
  refine s0 hex ?_
  refine s0 hex ?_
  refine hm_1 16 (hop_alloc (id:=16) (sz:=10) zc_26 rfl rfl omx omx) rfl rfl pre0 rfl rfl (c':=c8+1) rfl ?_
  first
  | refine hm_s1 (hol_storeW ty_26 rfl rfl rfl rfl) rfl rfl (pre1 rfl) (c':=c8+2) rfl ?_
  | refine hm_s1 (hol_store ty_26 rfl rfl rfl rfl (by first | exact Nat.le_of_ble_eq_true rfl | omega | (dsimp only;omega) | (simp <;> omega)) (by first | exact Nat.le_of_ble_eq_true rfl | omega | (dsimp only;omega) | (simp <;> omega)) (by first | exact Nat.le_of_ble_eq_true rfl | omega | (dsimp only;omega) | (simp <;> omega))) rfl rfl (pre1 rfl) (c':=c8+2) rfl ?_
  refine sa<|snl h52<|srg fun N h53=>?_
  first
  | refine hq_ 119 (hol_load ty_26 rfl (by first | exact Nat.le_of_ble_eq_true rfl | omega | (dsimp only;omega) | (simp <;> omega)) (by first | exact Nat.le_of_ble_eq_true rfl | omega | (dsimp only;omega) | (simp <;> omega)) (fun h=>(by first | rfl | cases h))) rfl rfl (pre1 rfl) rfl rfl ?_
  | refine hq_ 119 (hop_load_fp ty_26 rfl (by first | exact Nat.le_of_ble_eq_true rfl | omega | (dsimp only;omega) | (simp <;> omega)) (fun h=>(by first | rfl | cases h))) rfl rfl pre0 rfl rfl ?_
  refine s0 (hop_call0 (xs:=[_,_]) (byNil_h s ls.1 ls.2) ⟨rfl,⟨rfl,trivial⟩⟩ ⟨fe,⟨fe,trivial⟩⟩) ?_
  refine sm ?_
  refine s0 hex ?_
  refine s0 hex ?_
  refine hm_1 18 (hop_alloc (id:=18) (sz:=10) zc_26 rfl rfl omx omx) rfl rfl pre0 rfl rfl (c':=c8+3) rfl ?_
  first
  | refine hm_s1 (hol_storeW ty_26 rfl rfl rfl rfl) rfl rfl (pre1 rfl) (c':=c8+4) rfl ?_
  | refine hm_s1 (hol_store ty_26 rfl rfl rfl rfl (by first | exact Nat.le_of_ble_eq_true rfl | omega | (dsimp only;omega) | (simp <;> omega)) (by first | exact Nat.le_of_ble_eq_true rfl | omega | (dsimp only;omega) | (simp <;> omega)) (by first | exact Nat.le_of_ble_eq_true rfl | omega | (dsimp only;omega) | (simp <;> omega))) rfl rfl (pre1 rfl) (c':=c8+4) rfl ?_
  refine sa<|snl h53<|srg fun N h54=>sm<|sm ?_
  refine s0 (hop_beq (fun w=>by kernel_rfl) rfl rfl) ?_
  refine sm ?_
  first
  | refine hq_g 127 3 126 true _ (fun hb=>hol_load ty_26 rfl (by first | exact Nat.le_of_ble_eq_true rfl | (simp at hb;first | omega | (dsimp only;omega) | (simp <;> omega)) | omega | (dsimp only;omega)) (by first | exact Nat.le_of_ble_eq_true rfl | (simp at hb;first | omega | (dsimp only;omega) | (simp <;> omega)) | omega | (dsimp only;omega)) (fun h=>(by first | rfl | cases h))) rfl rfl rfl rfl (pre1 rfl) rfl rfl rfl ?_
  | refine hq_g2 127 3 126 _ _ true _ (fun hb=>hol_load ty_26 rfl (by first | exact Nat.le_of_ble_eq_true rfl | (simp at hb;first | omega | (dsimp only;omega) | (simp <;> omega)) | omega | (dsimp only;omega)) (by first | exact Nat.le_of_ble_eq_true rfl | (simp at hb;first | omega | (dsimp only;omega) | (simp <;> omega)) | omega | (dsimp only;omega)) (fun h=>(by first | rfl | cases h))) rfl rfl rfl rfl (pre1 rfl) rfl rfl rfl ?_
  | refine stg 126 (fun hb=>hop_load_fp ty_26 rfl (by first | exact Nat.le_of_ble_eq_true rfl | (simp at hb;first | omega | (dsimp only;omega) | (simp <;> omega)) | omega | (dsimp only;omega)) (fun h=>(by first | rfl | cases h))) rfl rfl rfl rfl rfl ?_
  | refine sth 126 (fun hb=>hop_load_fp ty_26 rfl (by first | exact Nat.le_of_ble_eq_true rfl | (simp at hb;first | omega | (dsimp only;omega) | (simp <;> omega)) | omega | (dsimp only;omega)) (fun h=>(by first | rfl | cases h))) rfl rfl rfl rfl rfl ?_
  first
  | refine hq_g 128 3 126 true _ (fun hb=>hol_load ty_26 rfl (by first | exact Nat.le_of_ble_eq_true rfl | (simp at hb;first | omega | (dsimp only;omega) | (simp <;> omega)) | omega | (dsimp only;omega)) (by first | exact Nat.le_of_ble_eq_true rfl | (simp at hb;first | omega | (dsimp only;omega) | (simp <;> omega)) | omega | (dsimp only;omega)) (fun h=>(by first | rfl | cases h))) rfl rfl rfl rfl (pre1 rfl) rfl rfl rfl ?_
  | refine hq_g2 128 3 126 _ _ true _ (fun hb=>hol_load ty_26 rfl (by first | exact Nat.le_of_ble_eq_true rfl | (simp at hb;first | omega | (dsimp only;omega) | (simp <;> omega)) | omega | (dsimp only;omega)) (by first | exact Nat.le_of_ble_eq_true rfl | (simp at hb;first | omega | (dsimp only;omega) | (simp <;> omega)) | omega | (dsimp only;omega)) (fun h=>(by first | rfl | cases h))) rfl rfl rfl rfl (pre1 rfl) rfl rfl rfl ?_
  | refine stg 126 (fun hb=>hop_load_fp ty_26 rfl (by first | exact Nat.le_of_ble_eq_true rfl | (simp at hb;first | omega | (dsimp only;omega) | (simp <;> omega)) | omega | (dsimp only;omega)) (fun h=>(by first | rfl | cases h))) rfl rfl rfl rfl rfl ?_
  | refine sth 126 (fun hb=>hop_load_fp ty_26 rfl (by first | exact Nat.le_of_ble_eq_true rfl | (simp at hb;first | omega | (dsimp only;omega) | (simp <;> omega)) | omega | (dsimp only;omega)) (fun h=>(by first | rfl | cases h))) rfl rfl rfl rfl rfl ?_
  first
  | refine stg 126 (fun hb=>hop_call0 (xs:=[_,_]) (same25q_h ((byV (routeV L mir) s).getD St.none) ((byV (routeV L mir) s).getD St.none) (byV_len ls) (byV_len ls)) ⟨rfl,⟨rfl,trivial⟩⟩ ⟨(Fz.eq rfl),⟨(Fz.eq rfl),trivial⟩⟩) rfl rfl rfl rfl rfl ?_
  | refine sth 126 (fun hb=>hop_call0 (xs:=[_,_]) (same25q_h ((byV (routeV L mir) s).getD St.none) ((byV (routeV L mir) s).getD St.none) (byV_len ls) (byV_len ls)) ⟨rfl,⟨rfl,trivial⟩⟩ ⟨(Fz.eq rfl),⟨(Fz.eq rfl),trivial⟩⟩) rfl rfl rfl rfl rfl ?_
  first
  | refine hq_p 130 (hstep_and _ _ rfl rfl rfl) rfl rfl rfl ?_
  | refine hq_p 130 (hstep_or _ _ rfl rfl rfl) rfl rfl rfl ?_
  | refine hq_p 130 (hstep_ite _ _ _ rfl rfl rfl) rfl rfl rfl ?_
  | refine hq_p 130 (hstep_pick _ _ _ _ rfl rfl rfl (fun _=>.refl _) (fun _=>.refl _)) rfl rfl rfl ?_
  refine sm ?_
  first
  | refine stg 131 (fun hb=>hop_move rfl) rfl rfl rfl rfl rfl ?_
  | refine sth 131 (fun hb=>hop_move rfl) rfl rfl rfl rfl rfl ?_
  first
  | refine stg 131 (fun hb=>hop_move rfl) rfl rfl rfl rfl rfl ?_
  | refine sth 131 (fun hb=>hop_move rfl) rfl rfl rfl rfl rfl ?_
  first
  | refine stg 131 (fun hb=>hop_beq (fun w=>by kernel_rfl) rfl rfl) rfl rfl rfl rfl rfl ?_
  | refine sth 131 (fun hb=>hop_beq (fun w=>by kernel_rfl) rfl rfl) rfl rfl rfl rfl rfl ?_
  first
  | refine hq_p 135 (hstep_and _ _ rfl rfl rfl) rfl rfl rfl ?_
  | refine hq_p 135 (hstep_or _ _ rfl rfl rfl) rfl rfl rfl ?_
  | refine hq_p 135 (hstep_ite _ _ _ rfl rfl rfl) rfl rfl rfl ?_
  | refine hq_p 135 (hstep_pick _ _ _ _ rfl rfl rfl (fun _=>.refl _) (fun _=>.refl _)) rfl rfl rfl ?_
  refine sm ?_
  first
  | refine hq_g 137 13 136 true _ (fun hb=>hol_load ty_26 rfl (by first | exact Nat.le_of_ble_eq_true rfl | (simp at hb;first | omega | (dsimp only;omega) | (simp <;> omega)) | omega | (dsimp only;omega)) (by first | exact Nat.le_of_ble_eq_true rfl | (simp at hb;first | omega | (dsimp only;omega) | (simp <;> omega)) | omega | (dsimp only;omega)) (fun h=>(by first | rfl | cases h))) rfl rfl rfl rfl (pre1 rfl) rfl rfl rfl ?_
  | refine hq_g2 137 13 136 _ _ true _ (fun hb=>hol_load ty_26 rfl (by first | exact Nat.le_of_ble_eq_true rfl | (simp at hb;first | omega | (dsimp only;omega) | (simp <;> omega)) | omega | (dsimp only;omega)) (by first | exact Nat.le_of_ble_eq_true rfl | (simp at hb;first | omega | (dsimp only;omega) | (simp <;> omega)) | omega | (dsimp only;omega)) (fun h=>(by first | rfl | cases h))) rfl rfl rfl rfl (pre1 rfl) rfl rfl rfl ?_
  | refine stg 136 (fun hb=>hop_load_fp ty_26 rfl (by first | exact Nat.le_of_ble_eq_true rfl | (simp at hb;first | omega | (dsimp only;omega) | (simp <;> omega)) | omega | (dsimp only;omega)) (fun h=>(by first | rfl | cases h))) rfl rfl rfl rfl rfl ?_
  | refine sth 136 (fun hb=>hop_load_fp ty_26 rfl (by first | exact Nat.le_of_ble_eq_true rfl | (simp at hb;first | omega | (dsimp only;omega) | (simp <;> omega)) | omega | (dsimp only;omega)) (fun h=>(by first | rfl | cases h))) rfl rfl rfl rfl rfl ?_
  first
  | refine hq_g 138 13 136 true _ (fun hb=>hol_load ty_26 rfl (by first | exact Nat.le_of_ble_eq_true rfl | (simp at hb;first | omega | (dsimp only;omega) | (simp <;> omega)) | omega | (dsimp only;omega)) (by first | exact Nat.le_of_ble_eq_true rfl | (simp at hb;first | omega | (dsimp only;omega) | (simp <;> omega)) | omega | (dsimp only;omega)) (fun h=>(by first | rfl | cases h))) rfl rfl rfl rfl (pre1 rfl) rfl rfl rfl ?_
  | refine hq_g2 138 13 136 _ _ true _ (fun hb=>hol_load ty_26 rfl (by first | exact Nat.le_of_ble_eq_true rfl | (simp at hb;first | omega | (dsimp only;omega) | (simp <;> omega)) | omega | (dsimp only;omega)) (by first | exact Nat.le_of_ble_eq_true rfl | (simp at hb;first | omega | (dsimp only;omega) | (simp <;> omega)) | omega | (dsimp only;omega)) (fun h=>(by first | rfl | cases h))) rfl rfl rfl rfl (pre1 rfl) rfl rfl rfl ?_
  | refine stg 136 (fun hb=>hop_load_fp ty_26 rfl (by first | exact Nat.le_of_ble_eq_true rfl | (simp at hb;first | omega | (dsimp only;omega) | (simp <;> omega)) | omega | (dsimp only;omega)) (fun h=>(by first | rfl | cases h))) rfl rfl rfl rfl rfl ?_
  | refine sth 136 (fun hb=>hop_load_fp ty_26 rfl (by first | exact Nat.le_of_ble_eq_true rfl | (simp at hb;first | omega | (dsimp only;omega) | (simp <;> omega)) | omega | (dsimp only;omega)) (fun h=>(by first | rfl | cases h))) rfl rfl rfl rfl rfl ?_
  first
  | refine stg 136 (fun hb=>hop_call0 (xs:=[_,_]) (same25q_h ((byV (routeV L mir) s).getD St.none) ((byV (routeV L mir) s).getD St.none) (byV_len ls) (byV_len ls)) ⟨rfl,⟨rfl,trivial⟩⟩ ⟨(Fz.eq rfl),⟨(Fz.eq rfl),trivial⟩⟩) rfl rfl rfl rfl rfl ?_
  | refine sth 136 (fun hb=>hop_call0 (xs:=[_,_]) (same25q_h ((byV (routeV L mir) s).getD St.none) ((byV (routeV L mir) s).getD St.none) (byV_len ls) (byV_len ls)) ⟨rfl,⟨rfl,trivial⟩⟩ ⟨(Fz.eq rfl),⟨(Fz.eq rfl),trivial⟩⟩) rfl rfl rfl rfl rfl ?_
  first
  | refine hq_p 140 (hstep_and _ _ rfl rfl rfl) rfl rfl rfl ?_
  | refine hq_p 140 (hstep_or _ _ rfl rfl rfl) rfl rfl rfl ?_
  | refine hq_p 140 (hstep_ite _ _ _ rfl rfl rfl) rfl rfl rfl ?_
  | refine hq_p 140 (hstep_pick _ _ _ _ rfl rfl rfl (fun _=>.refl _) (fun _=>.refl _)) rfl rfl rfl ?_
  refine sm ?_
  first
  | refine stg 141 (fun hb=>hop_move rfl) rfl rfl rfl rfl rfl ?_
  | refine sth 141 (fun hb=>hop_move rfl) rfl rfl rfl rfl rfl ?_
  first
  | refine stg 141 (fun hb=>hop_not rfl) rfl rfl rfl rfl rfl ?_
  | refine sth 141 (fun hb=>hop_not rfl) rfl rfl rfl rfl rfl ?_
  first
  | refine hq_p 144 (hstep_and _ _ rfl rfl rfl) rfl rfl rfl ?_
  | refine hq_p 144 (hstep_or _ _ rfl rfl rfl) rfl rfl rfl ?_
  | refine hq_p 144 (hstep_ite _ _ _ rfl rfl rfl) rfl rfl rfl ?_
  | refine hq_p 144 (hstep_pick _ _ _ _ rfl rfl rfl (fun _=>.refl _) (fun _=>.refl _)) rfl rfl rfl ?_
  refine sm ?_
  first
  | refine stg 145 (fun hb=>hop_call0 (xs:=[]) (live26_h) trivial trivial) rfl rfl rfl rfl rfl ?_
  | refine sth 145 (fun hb=>hop_call0 (xs:=[]) (live26_h) trivial trivial) rfl rfl rfl rfl rfl ?_
  first
  | refine hq_p 147 (hstep_and _ _ rfl rfl rfl) rfl rfl rfl ?_
  | refine hq_p 147 (hstep_or _ _ rfl rfl rfl) rfl rfl rfl ?_
  | refine hq_p 147 (hstep_ite _ _ _ rfl rfl rfl) rfl rfl rfl ?_
  | refine hq_p 147 (hstep_pick _ _ _ _ rfl rfl rfl (fun _=>.refl _) (fun _=>.refl _)) rfl rfl rfl ?_
  refine sa ?_
  refine nu ?_
  refine h54 _<|hw_ret ?_
  refine hq_ret1 rfl (rval_tmp rfl) [] rfl pre0 ?_
  exact Fz.eq (congrArg (fun b=>boolV b) (by simp))
end Go.Proofs.Ytkcfhciffdnmmaa
namespace Go.Proofs.Ytkcfhciffdnmmaa
theorem libW_none (w:World):LibW w where
 ok b hb:=by
  obtain ⟨n,hn,hg⟩:=hb
  have h1:(libNames.all fun n=>(Try.prog.globalNamed n).isNone)=true:=by kernel_rfl
  have:=List.all_eq_true.1 h1 n hn
  rw [hg] at this;cases this
 tab h:=by
  have h1:(Try.prog.globalNamed "internal/strconv.uint64pow10").isSome=false:=by kernel_rfl
  unfold hasLib at h;rw [h1] at h;cases h
 syn h:=by
  have h1:(Try.prog.globalNamed "strconv.ErrSyntax").isSome=false:=by kernel_rfl
  unfold hasLib at h;rw [h1] at h;cases h
 rng h:=by
  have h1:(Try.prog.globalNamed "strconv.ErrRange").isSome=false:=by kernel_rfl
  unfold hasLib at h;rw [h1] at h;cases h
 max g hg:=by
  have h1:(Try.prog.globalNamed "internal/bytealg.MaxLen").isNone=true:=by kernel_rfl
  rw [hg] at h1;cases h1
 dbt h:=by
  have h1:(Try.prog.globalNamed "math/bits.deBruijn64tab").isSome=false:=by kernel_rfl
  unfold hasLib at h;rw [h1] at h;cases h
end Go.Proofs.Ytkcfhciffdnmmaa
namespace Go.Proofs.Ytkcfhciffdnmmaa
set_option linter.unusedSimpArgs false
set_option linter.unusedVariables false
open Go.RowKit
def okRg (r:Rg):Prop:=okInt r.at_∧okInt r.old∧okInt r.new
set_option maxRecDepth 100000 in
theorem el_rg {H:Type} {encH:TypeId×Value→H} {w:World} {base:Nat} {spare:Nat→Bool} {held:Bool} (m:Nat) (cs:List Value) (y:DataW H×List MemPlace) (h:DataW.trod encH Try.prog w base spare held m 88 cs=some y):∃ t:Rg,cs=t.cells∧okRg t:=by
  obtain ⟨xs,k,_,_,hlen,hxl,hx⟩:=DataW.trod_struct Try.underlying88 h
  have hC:Try.prog.cellsOf 88=3:=by kernel_rfl
  have hI:Try.prog.cellsOf 3=1:=by kernel_rfl
  rw [hC] at hlen
  match cs,hlen,xs,hxl with
  | [c0, c1, c2], _, [x0, x1, x2], _ =>
    have f0:DataW.trod encH Try.prog w base spare held k 3 (([c0,c1,c2].drop 0).take (Try.prog.cellsOf 3))=[x0,x1,x2][0]?:=hx 0 _ rfl
    have f1:DataW.trod encH Try.prog w base spare held k 3 (([c0,c1,c2].drop 1).take (Try.prog.cellsOf 3))=[x0,x1,x2][1]?:=hx 1 _ rfl
    have f2:DataW.trod encH Try.prog w base spare held k 3 (([c0,c1,c2].drop 2).take (Try.prog.cellsOf 3))=[x0,x1,x2][2]?:=hx 2 _ rfl
    rw [hI] at f0 f1 f2
    obtain ⟨a0,h0,_,w0⟩:=DataW.trod_int Try.underlying3 f0
    obtain ⟨a1,h1,_,w1⟩:=DataW.trod_int Try.underlying3 f1
    obtain ⟨a2,h2,_,w2⟩:=DataW.trod_int Try.underlying3 f2
    simp at h0 h1 h2
    subst h0;subst h1;subst h2
    exact ⟨⟨a0,a1,a2⟩,rfl,w0,w1,w2⟩
theorem rep_rgs {w:World} {B:Nat} {A:Option Addr} {c:Nat} {l:List Rg} (h:Sl w B 3 Rg.cells A l) (hc:l.length≤c) (hm:c≤maxLen):Rep w (Env.just (allF w)) (.slice A l.length c) (rgsV l) :=
 rep_sl 3 (by omega) Rg.cells rg_one rgF default l hc hm h (fun i j _ hj=>by rw [rgF_imm _ _ hj];exact .imm _)
theorem rep_stp {w:World} {x:Stp} (h:x.inOk w):Rep w (Env.just (allF w)) (.agg x.cells.toArray) (stV x.v):=by
  obtain ⟨⟨e1,e2,s1,s2,o1,o2⟩,m1,m2,_⟩:=h
  obtain ⟨v,a1,n1,c1,a2,n2,c2⟩:=x
  simp only at e1 e2 s1 s2 o1 o2 m1 m2
  subst e1;subst e2
  refine .agg _ 10 _ (fun i=>(Stp.cells ⟨v,a1,v.sl.length,c1,a2,v.sets.length,c2⟩).getD i undef) (by simp [Stp.cells]) (fun i hi=>?_) (fun i hi=>?_)
  · match i, hi with
    | 0,_=>exact ⟨rfl,rfl⟩ | 1,_=>exact ⟨rfl,rfl⟩ | 2,_=>exact ⟨rfl,rfl⟩ | 3,_=>exact ⟨rfl,rfl⟩ | 4,_=>exact ⟨rfl,rfl⟩
    | 5,_=>exact ⟨rfl,rfl⟩ | 6,_=>exact ⟨rfl,rfl⟩ | 7,_=>exact ⟨rfl,rfl⟩ | 8,_=>exact ⟨rfl,rfl⟩ | 9,_=>exact ⟨rfl,rfl⟩
  · match i, hi with
    | 0,_=>exact .imm _ | 1,_=>exact .imm _ | 2,_=>exact .imm _ | 3,_=>exact .imm _ | 4,_=>exact .imm _ | 5,_=>exact .imm _ | 6,_=>exact .imm _ | 7,_=>exact .imm _
    | 8,_=>exact rep_toks s1 o1 (by unfold maxLen;omega)
    | 9,_=>exact rep_mkss s2 o2 (by unfold maxLen;omega)
structure MpS where
 v:Mp
 A:Option Addr
 c:Nat
def MpS.none:MpS:=⟨mp0,.none,0⟩
def MpS.cells (x:MpS):List Value:=[.slice x.A x.v.m.length x.c,.int .i64 x.v.of]
theorem MpS.cells_length (x:MpS):x.cells.length=2:=by simp [MpS.cells]
theorem mps_one (x:MpS):∀ u∈x.cells,u.oneCell'=true:=by
 intro u hu
 simp only [MpS.cells,List.mem_cons,List.not_mem_nil,or_false] at hu
 rcases hu with rfl | rfl <;> rfl
def MpS.inOk (w:World) (x:MpS):Prop:=Sl w w.heap.size 3 Rg.cells x.A x.v.m∧x.v.m.length≤x.c∧x.c≤9223372036854775807∧okInt x.v.of
set_option maxRecDepth 100000 in
theorem el_mp {H:Type} {encH:TypeId×Value→H} {w:World} {base:Nat} {spare:Nat→Bool} {held:Bool} (m:Nat) (cs:List Value) (y:DataW H×List MemPlace) (h:DataW.trod encH Try.prog w base spare held m 50 cs=some y):∃ t:MpS,cs=t.cells∧t.inOk w:=by
  obtain ⟨xs,k,_,_,hlen,hxl,hx⟩:=DataW.trod_struct Try.underlying50 h
  have hC:Try.prog.cellsOf 50=2:=by kernel_rfl
  have hI:Try.prog.cellsOf 3=1:=by kernel_rfl
  have hT:Try.prog.cellsOf 48=1:=by kernel_rfl
  rw [hC] at hlen
  match cs,hlen,xs,hxl with
  | [c0, c1], _, [x0, x1], _ =>
    have f0:DataW.trod encH Try.prog w base spare held k 48 (([c0,c1].drop 0).take (Try.prog.cellsOf 48))=[x0,x1][0]?:=hx 0 _ rfl
    have f1:DataW.trod encH Try.prog w base spare held k 3 (([c0,c1].drop 1).take (Try.prog.cellsOf 3))=[x0,x1][1]?:=hx 1 _ rfl
    rw [hT] at f0
    rw [hI] at f1
    obtain ⟨a1,h1,_,w1⟩:=DataW.trod_int Try.underlying3 f1
    simp at h1
    subst h1
    simp only [List.drop_succ_cons,List.drop_zero,List.take_succ_cons,List.take_zero] at f0
    obtain ⟨A,n,c,rfl⟩:=trod_slice_form Try.underlying48 f0
    obtain ⟨l1,e1,s1,o1,m1,_⟩:=open_sl Try.underlying48 3 (by kernel_rfl) (by omega) Rg.cells Rg.cells_length okRg el_rg f0
    subst e1
    exact ⟨⟨⟨l1,a1⟩,A,c⟩,rfl,s1,o1,m1,w1⟩
theorem rep_mps {w:World} {B:Nat} {A:Option Addr} {c:Nat} {l:List MpS} (h:Sl w B 2 MpS.cells A l) (hc:l.length≤c) (hm:c≤maxLen) (hok:∀ x∈l,x.inOk w):Rep w (Env.just (allF w)) (.slice A l.length c) (mpsLV (l.map (·.v))):=by
 have key:=rep_sl (w:=w) 2 (by omega) MpS.cells mps_one (fun x=>mpF x.v) MpS.none l hc hm h (fun i j hi hj=>by
  have hg:l.getD i MpS.none=l[i]:=by rw [List.getD_eq_getElem?_getD,List.getElem?_eq_getElem hi];rfl
  rw [hg]
  obtain ⟨s1,o1,m1,_⟩:=hok _ (List.getElem_mem hi)
  generalize l[i]=x at s1 o1 m1
  match j,hj with
  | 0,_=>exact rep_rgs s1 o1 (by unfold maxLen;omega)
  | 1,_=>exact .imm _)
 have e:(HV.sl 2 (l.map (·.v)).length (fun i=>mpF ((l.map (·.v)).getD i mp0)))=.sl 2 l.length (fun i=>mpF (l.getD i MpS.none).v):=by
  congr 1
  ·rw [List.length_map]
  ·funext i;congr 1
   rw [List.getD_eq_getElem?_getD,List.getElem?_map,List.getD_eq_getElem?_getD]
   cases l[i]? <;> rfl
 show Rep w _ _ (HV.sl 2 (l.map (·.v)).length (fun i=>mpF ((l.map (·.v)).getD i mp0)))
 rw [e];exact key
theorem ShiftThrough_walk (w:World) (s0:Stp) (k0:s0.inOk w) (a1:Option Addr) (n1 c1:Nat) (l1:List MpS) (hn1:l1.length=n1) (sl1:Sl w w.heap.size 2 MpS.cells a1 l1) (hc1:n1≤c1) (hm1:c1≤9223372036854775807) (ok1:∀ x∈l1,x.inOk w) :
  Calls Try.prog 4 #[.agg s0.cells.toArray,.slice a1 n1 c1] w fun e w'=>e=.returned (.bool true)∧Below w.heap.size w w':=by
 subst hn1
 exact law_walk (shiftThrough_h s0.v (l1.map (·.v))) w [.agg s0.cells.toArray,.slice a1 l1.length c1] ⟨rep_stp k0,rep_mps sl1 hc1 (by unfold maxLen;omega) ok1,trivial⟩ (libW_none w)
end Go.Proofs.Ytkcfhciffdnmmaa
