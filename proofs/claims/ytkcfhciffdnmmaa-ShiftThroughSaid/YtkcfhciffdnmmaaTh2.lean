/-
  The document's way of a step over a route (printed by tools/gen_sh0.py).
-/
import Derived.Test.YtkcfhciffdnmmaaShV
import Derived.Test.YtkcfhciffdnmmaaSmV
namespace Go.Proofs.Ytkcfhciffdnmmaa
set_option linter.unusedSimpArgs false
set_option linter.unusedVariables false
set_option maxRecDepth 100000
set_option maxHeartbeats 1000000
open Go.RowKit
def ofsV (L:List (List Rg)) (mir:List (Int×Int)) (i:Nat):Int:=(ofV L.length mir (i:Int)).getD (-1)
def rtF24 (L:List (List Rg)) (mir:List (Int×Int)):Nat→HV
 | 0=>.sl 1 L.length (fun i _=>rgsV (L.getD i []))
 | _=>.sl 1 L.length (fun i _=>intV (ofsV L mir i))
@[reducible] def rt24 (L:List (List Rg)) (mir:List (Int×Int)):HV:=.agg 2 (rtF24 L mir)
theorem fz_rtF24 {sh:List (Nat×HObj)} (L:List (List Rg)) (mir:List (Int×Int)) (j:Nat):Fz sh (rtF24 L mir j) (rtF24 L mir j):=by
 unfold rtF24;split
 ·exact .sl _ _ _ _ fun i j _ _=>Frz.fz
 ·exact .sl _ _ _ _ fun i j _ _=>.imm _
instance (L:List (List Rg)) (mir:List (Int×Int)) (j:Nat):Frz (rtF24 L mir j):=⟨fz_rtF24 L mir j⟩
theorem ofs_bd {L:List (List Rg)} {mir:List (Int×Int)} (hok:RtOk L mir) {i:Nat} (h:(i:Int) < ofsV L mir i):0≤ofsV L mir i∧ofsV L mir i < L.length:=by
 unfold ofsV at h ⊢
 cases ho:ofV L.length mir (i:Int) with
 | none=>rw [ho] at h;exact absurd h (by simp)
 | some k=>rw [ho] at h;have:=ofV_bd hok ho;exact ⟨this.1,this.2.1⟩
theorem rd24_yes {L:List (List Rg)} {mir:List (Int×Int)} {i:Nat} {p:Plc} (h:p.gone=true∧(i:Int) < ofsV L mir i):recd L mir i p=(recV (L.getD (ofsV L mir i).toNat []) p.rng p.off).map (fun x=>((ofsV L mir i).toNat,x)):=by
 unfold recd
 have h2:=h.2
 unfold ofsV at h2 ⊢
 cases ho:ofV L.length mir (i:Int) with
 | none=>rw [ho] at h2;exact absurd h2 (by simp)
 | some k=>rw [ho] at h2;show (if _ then _ else _)=_;rw [if_pos ⟨h.1,by show ¬ k < (i:Int);have:(i:Int) < k:=h2;omega⟩];rfl
theorem rd24_no {L:List (List Rg)} {mir:List (Int×Int)} (hok:RtOk L mir) {i:Nat} {p:Plc} (h:¬ (p.gone=true∧(i:Int) < ofsV L mir i)):recd L mir i p=none:=by
  unfold recd
  unfold ofsV at h
  cases ho:ofV L.length mir (i:Int) with
  | none=>rfl
  | some k =>
    rw [ho] at h
    have:=ofV_bd hok ho
    show (if _ then _ else _)=_
    rw [if_neg]
    rintro ⟨h1,h2⟩
    exact h ⟨h1,by show (i:Int) < k;omega⟩
theorem rd24_some {m:List Rg} {a o:Int} (h:0≤(recV m a o).getD (-1)):recV m a o=some ((recV m a o).getD (-1)):=by
 cases hr:recV m a o with
 | none=>rw [hr] at h;exact absurd h (by decide)
 | some x=>rfl
theorem rd24_none {m:List Rg} {a o:Int} (h:¬ 0≤(recV m a o).getD (-1)):recV m a o=none:=by
 cases hr:recV m a o with
 | none=>rfl
 | some x=>rw [hr] at h;exact absurd (recV_ge hr).1 h
theorem rtell_h (L:List (List Rg)) (mir:List (Int×Int)) (hL:L.length≤100000) (hok:RtOk L mir) (pos side:Int):HPure Try.prog 46 [rt24 L mir,intV pos,intV side] (t2 (plcH (routeV L mir pos side).1) (boolV (decide ((routeV L mir pos side).2=0)))):=by
 refine hpure_of Try.func46 rfl kr _ _ _ rfl 92 rfl rfl (fun w F=>?_)
 refine srg fun N h1=>?_
 refine hm_1 3 (hop_box (id:=3) (sz:=2) rfl rfl rfl omx omx) rfl rfl pre0 rfl rfl (c':=1) rfl ?_
 refine hm_1 6 (hop_alloc (id:=6) (sz:=5) zc_93 rfl rfl omx omx) rfl rfl pre0 rfl rfl (c':=2) rfl ?_
 refine sa<|snl h1<|srg fun N h2=>sm ?_
 refine s0 (hop_build (hs:=[(0,1,_)]) st_93 rfl rfl ⟨rfl,rfl,rfl,rfl,rfl,trivial⟩) ?_
 refine hm_1 8 (hop_alloc (id:=8) (sz:=5) zc_93 rfl rfl omx omx) rfl rfl pre0 rfl rfl (c':=3) rfl ?_
 first
 | refine hm_s1 (hol_storeW ty_93 rfl rfl rfl rfl) rfl rfl (pre1 rfl) (c':=4) rfl ?_
 | refine hm_s1 (hol_store ty_93 rfl rfl rfl rfl (by first | exact Nat.le_of_ble_eq_true rfl | omega | (dsimp only;omega) | (simp <;> omega)) (by first | exact Nat.le_of_ble_eq_true rfl | omega | (dsimp only;omega) | (simp <;> omega)) (by first | exact Nat.le_of_ble_eq_true rfl | omega | (dsimp only;omega) | (simp <;> omega))) rfl rfl (pre1 rfl) (c':=4) rfl ?_
 refine snl h2<|hw_seq fun Nh3 h3=>srg fun N h4=>sa<|snl h4<|hw_block ?_
 refine hw_loopc (α:=Nat×Plc) (fun x c=>⟨92,[(2,.v (intV side)),(3,.v (.pt 3 0 0 0)),(6,.v (.pt 6 1 0 0)),(8,.v (.pt 8 2 0 0)),(9,.v (intV (x.1:Int)))],[(3,⟨0,1,2,47,0,fun _=>rtF24 L mir⟩),(6,plcT 93 1 ⟨0,false,false,0,0⟩),(8,plcT 93 2 x.2)],c⟩) (fun x=>x.1≤L.length∧goV L mir side x.1 x.2=routeV L mir pos side) (fun x=>L.length - x.1) ((0,⟨pos,false,false,0,0⟩)) (by exact ⟨Nat.zero_le _,rfl⟩) (hsub_of rfl (Nat.le_refl _) (tsr rfl (tsr rfl (tsr rfl (tsr rfl (TmSub.cons rfl (sb_intV rfl) TmSub.nil))))) (hsr rfl (HpSub.cons rfl (osub_plcT (by exact j5i rfl rfl rfl rfl rfl)) (HpSub.cons rfl (osub_plcT (by exact j5i rfl rfl rfl rfl rfl)) HpSub.nil)))) (fun x c hx NhL5 hL5=>?_)
 revert hx hL5;obtain ⟨i,o⟩:=x;intro hx hL5;dsimp only at hx hL5 ⊢
 obtain ⟨hil,hgo⟩:=hx
 refine hw_seq fun Nh6 h6=>srg fun N h7=>sm ?_
 first
 | refine hq_ 15 (hop_fa fd_47_0 rfl) rfl rfl pre0 rfl rfl ?_
 | refine hq_ 15 (hop_fa_fp fd_47_0 rfl (by first | exact Nat.le_of_ble_eq_true rfl | omega | (dsimp only;omega) | (simp <;> omega))) rfl rfl pre0 rfl rfl ?_
 first
 | refine hq_ 16 (hol_load ty_41 rfl (by first | exact Nat.le_of_ble_eq_true rfl | omega | (dsimp only;omega) | (simp <;> omega)) (by first | exact Nat.le_of_ble_eq_true rfl | omega | (dsimp only;omega) | (simp <;> omega)) (fun h=>(by first | rfl | cases h))) rfl rfl (pre1 rfl) rfl rfl ?_
 | refine hq_ 16 (hop_load_fp ty_41 rfl (by first | exact Nat.le_of_ble_eq_true rfl | omega | (dsimp only;omega) | (simp <;> omega)) (fun h=>(by first | rfl | cases h))) rfl rfl pre0 rfl rfl ?_
 first
 | refine hq_ 17 (hop_len_sl (T:=41) rfl (elOf_spec el_41).1 rfl) rfl rfl pre0 rfl rfl ?_
 | refine hq_ 17 (hop_len_os (T:=41) rfl (elOf_spec el_41).1 rfl) rfl rfl pre0 rfl rfl ?_
 | refine hq_ 17 (hop_len_nil (T:=41) rfl (elOf_spec el_41).1 rfl) rfl rfl pre0 rfl rfl ?_
 refine s0 hli ?_
 refine snl h7 ?_
 refine wc (fun hc0=>?_) (fun hc0=>?_)
 ·have hr0:=hc0;(try simp only [hcs,Int.reduceToNat] at hc0)
  have hlt:i < L.length:=om;have hri:=hok.1 i hlt
  refine hw_skip<|h6 _<|hw_block<|hw_seq fun Nh8 h8=>srg fun N h9=>?_
  first
  | refine hq_ 19 (hop_fa fd_93_0 rfl) rfl rfl pre0 rfl rfl ?_
  | refine hq_ 19 (hop_fa_fp fd_93_0 rfl (by first | exact Nat.le_of_ble_eq_true rfl | omega | (dsimp only;omega) | (simp <;> omega))) rfl rfl pre0 rfl rfl ?_
  first
  | refine hq_ 20 (hol_load ty_3 rfl (by first | exact Nat.le_of_ble_eq_true rfl | omega | (dsimp only;omega) | (simp <;> omega)) (by first | exact Nat.le_of_ble_eq_true rfl | omega | (dsimp only;omega) | (simp <;> omega)) (fun h=>(by first | rfl | cases h))) rfl rfl (pre1 rfl) rfl rfl ?_
  | refine hq_ 20 (hop_load_fp ty_3 rfl (by first | exact Nat.le_of_ble_eq_true rfl | omega | (dsimp only;omega) | (simp <;> omega)) (fun h=>(by first | rfl | cases h))) rfl rfl pre0 rfl rfl ?_
  refine s0 hli ?_
  refine sm ?_
  first
  | refine stg 22 (fun hb=>hop_fa fd_93_0 rfl) rfl rfl rfl rfl rfl ?_
  | refine sth 22 (fun hb=>hop_fa fd_93_0 rfl) rfl rfl rfl rfl rfl ?_
  | refine stg 22 (fun hb=>hop_fa_fp fd_93_0 rfl (by first | exact Nat.le_of_ble_eq_true rfl | (simp at hb;first | omega | (dsimp only;omega) | (simp <;> omega)) | omega | (dsimp only;omega))) rfl rfl rfl rfl rfl ?_
  | refine sth 22 (fun hb=>hop_fa_fp fd_93_0 rfl (by first | exact Nat.le_of_ble_eq_true rfl | (simp at hb;first | omega | (dsimp only;omega) | (simp <;> omega)) | omega | (dsimp only;omega))) rfl rfl rfl rfl rfl ?_
  first
  | refine hq_g 24 3 22 false _ (fun hb=>hol_load ty_3 rfl (by first | exact Nat.le_of_ble_eq_true rfl | (simp at hb;first | omega | (dsimp only;omega) | (simp <;> omega)) | omega | (dsimp only;omega)) (by first | exact Nat.le_of_ble_eq_true rfl | (simp at hb;first | omega | (dsimp only;omega) | (simp <;> omega)) | omega | (dsimp only;omega)) (fun h=>(by first | rfl | cases h))) rfl rfl rfl rfl (pre1 rfl) rfl rfl rfl ?_
  | refine hq_g2 24 3 22 _ _ false _ (fun hb=>hol_load ty_3 rfl (by first | exact Nat.le_of_ble_eq_true rfl | (simp at hb;first | omega | (dsimp only;omega) | (simp <;> omega)) | omega | (dsimp only;omega)) (by first | exact Nat.le_of_ble_eq_true rfl | (simp at hb;first | omega | (dsimp only;omega) | (simp <;> omega)) | omega | (dsimp only;omega)) (fun h=>(by first | rfl | cases h))) rfl rfl rfl rfl (pre1 rfl) rfl rfl rfl ?_
  | refine stg 22 (fun hb=>hop_load_fp ty_3 rfl (by first | exact Nat.le_of_ble_eq_true rfl | (simp at hb;first | omega | (dsimp only;omega) | (simp <;> omega)) | omega | (dsimp only;omega)) (fun h=>(by first | rfl | cases h))) rfl rfl rfl rfl rfl ?_
  | refine sth 22 (fun hb=>hop_load_fp ty_3 rfl (by first | exact Nat.le_of_ble_eq_true rfl | (simp at hb;first | omega | (dsimp only;omega) | (simp <;> omega)) | omega | (dsimp only;omega)) (fun h=>(by first | rfl | cases h))) rfl rfl rfl rfl rfl ?_
  first
  | refine stg 22 (fun hb=>hop_gtr rfl rfl) rfl rfl rfl rfl rfl ?_
  | refine sth 22 (fun hb=>hop_gtr rfl rfl) rfl rfl rfl rfl rfl ?_
  first
  | refine hq_p 26 (hstep_and _ _ rfl rfl rfl) rfl rfl rfl ?_
  | refine hq_p 26 (hstep_or _ _ rfl rfl rfl) rfl rfl rfl ?_
  | refine hq_p 26 (hstep_ite _ _ _ rfl rfl rfl) rfl rfl rfl ?_
  | refine hq_p 26 (hstep_pick _ _ _ _ rfl rfl rfl (fun _=>.refl _) (fun _=>.refl _)) rfl rfl rfl ?_
  refine nu ?_
  refine h9 _ ?_
  refine wc (fun hc1=>?_) (fun hc1=>?_)
  ·have hr1:=hc1;(try simp only [hcs,Int.reduceToNat] at hc1)
   have hbad:o.pos < 0∨1099511627776 < o.pos:=hc1
   refine srg fun N h10=>?_
   refine s0 (hop_build (hs:=[]) st_93 rfl rfl trivial) ?_
   first
   | refine hm_s1 (hol_storeW ty_93 rfl rfl rfl rfl) rfl rfl (pre1 rfl) (c':=c+1) rfl ?_
   | refine hm_s1 (hol_store ty_93 rfl rfl rfl rfl (by first | exact Nat.le_of_ble_eq_true rfl | omega | (dsimp only;omega) | (simp <;> omega)) (by first | exact Nat.le_of_ble_eq_true rfl | omega | (dsimp only;omega) | (simp <;> omega)) (by first | exact Nat.le_of_ble_eq_true rfl | omega | (dsimp only;omega) | (simp <;> omega))) rfl rfl (pre1 rfl) (c':=c+1) rfl ?_
   refine sa<|snl h10<|hw_ret<|hq_then_ret<|hq_block_ret<|hq_then_ret<|hq_block_ret<|hq_then_ret ?_
   refine hq_ret2 rfl (rvl_cell rfl rfl ty_93 rqc rfl rfl) (rval_tmp rfl) [] rfl pre0 ?_
   rw [←hgo,goV_bad hlt hbad];exact fz_t2 (fz_plc (by exact j5i rfl rfl rfl rfl rfl)) (.imm _)
  have hr1:=hc1;(try simp only [hcs,Int.reduceToNat] at hc1)
  have hgood:¬ (o.pos < 0∨1099511627776 < o.pos):=(by have h9:=hr1;simp at h9;omega);have htb:=tellV_bd hri (pos:=o.pos) (side:=side) om
  refine hw_skip<|h8 _<|hw_seq fun Nh11 h11=>hd_start ?_
  first
  | refine hd_q 28 (hop_fa fd_47_0 rfl) rfl rfl pre0 rfl rfl (k':=1) rfl ?_
  | refine hd_q 28 (hop_fa_fp fd_47_0 rfl (by first | exact Nat.le_of_ble_eq_true rfl | omega | (dsimp only;omega) | (simp <;> omega))) rfl rfl pre0 rfl rfl (k':=1) rfl ?_
  first
  | refine hd_q 29 (hol_load ty_41 rfl (by first | exact Nat.le_of_ble_eq_true rfl | omega | (dsimp only;omega) | (simp <;> omega)) (by first | exact Nat.le_of_ble_eq_true rfl | omega | (dsimp only;omega) | (simp <;> omega)) (fun h=>(by first | rfl | cases h))) rfl rfl (pre1 rfl) rfl rfl (k':=2) rfl ?_
  | refine hd_q 29 (hop_load_fp ty_41 rfl (by first | exact Nat.le_of_ble_eq_true rfl | omega | (dsimp only;omega) | (simp <;> omega)) (fun h=>(by first | rfl | cases h))) rfl rfl pre0 rfl rfl (k':=2) rfl ?_
  refine dm 3 ?_
  first
  | refine hd_q 31 (hop_ia_sl el_41 rfl rfl (by first | exact Nat.le_of_ble_eq_true rfl | omega | (dsimp only;omega) | (simp <;> omega)) (by first | exact Nat.le_of_ble_eq_true rfl | omega | (dsimp only;omega) | (simp <;> omega)) (by first | exact Nat.le_of_ble_eq_true rfl | omega | (dsimp only;omega) | (simp <;> omega))) rfl rfl pre0 rfl rfl (k':=4) rfl ?_
  | refine hd_q 31 (hol_ia_os el_41 rfl rfl (by first | exact Nat.le_of_ble_eq_true rfl | omega | (dsimp only;omega) | (simp <;> omega)) (by first | exact Nat.le_of_ble_eq_true rfl | omega | (dsimp only;omega) | (simp <;> omega))) rfl rfl (pre1 rfl) rfl rfl (k':=4) rfl ?_
  first
  | refine hd_q 32 (HOp.val (v':=rgsV (L.getD i [])) (hol_load ty_48 rfl (by first | exact Nat.le_of_ble_eq_true rfl | omega | (dsimp only;omega) | (simp <;> omega)) (by first | exact Nat.le_of_ble_eq_true rfl | omega | (dsimp only;omega) | (simp <;> omega)) (fun h=>(by first | rfl | cases h))) (rfl)) rfl rfl (pre1 rfl) rfl rfl (k':=5) rfl ?_
  | refine hd_q 32 (HOp.val (v':=rgsV (L.getD i [])) (hop_load_fp ty_48 rfl (by first | exact Nat.le_of_ble_eq_true rfl | omega | (dsimp only;omega) | (simp <;> omega)) (fun h=>(by first | rfl | cases h))) (rfl)) rfl rfl pre0 rfl rfl (k':=5) rfl ?_
  first
  | refine hd_q 33 (hop_fa fd_93_0 rfl) rfl rfl pre0 rfl rfl (k':=6) rfl ?_
  | refine hd_q 33 (hop_fa_fp fd_93_0 rfl (by first | exact Nat.le_of_ble_eq_true rfl | omega | (dsimp only;omega) | (simp <;> omega))) rfl rfl pre0 rfl rfl (k':=6) rfl ?_
  first
  | refine hd_q 34 (HOp.val (v':=intV o.pos) (hol_load ty_3 rfl (by first | exact Nat.le_of_ble_eq_true rfl | omega | (dsimp only;omega) | (simp <;> omega)) (by first | exact Nat.le_of_ble_eq_true rfl | omega | (dsimp only;omega) | (simp <;> omega)) (fun h=>(by first | rfl | cases h))) (rfl)) rfl rfl (pre1 rfl) rfl rfl (k':=7) rfl ?_
  | refine hd_q 34 (HOp.val (v':=intV o.pos) (hop_load_fp ty_3 rfl (by first | exact Nat.le_of_ble_eq_true rfl | omega | (dsimp only;omega) | (simp <;> omega)) (fun h=>(by first | rfl | cases h))) (rfl)) rfl rfl pre0 rfl rfl (k':=7) rfl ?_
  refine dm 8 ?_
  refine d0 9 (hop_call0 (xs:=[_,_,_]) (tell23_h (L.getD i []) hri o.pos side om) ⟨rfl,⟨rfl,⟨rfl,trivial⟩⟩⟩ ⟨fe,⟨fe,⟨fe,trivial⟩⟩⟩) ?_
  refine hd_1 10 (hop_alloc (id:=10) (sz:=5) zc_93 rfl rfl omx omx) rfl rfl pre0 rfl rfl (k':=10) rfl ?_
  first
  | refine hd_s1 (hol_storeW ty_93 rfl rfl rfl rfl) rfl rfl (pre1 rfl) (k':=11) rfl ?_
  | refine hd_s1 (hol_store ty_93 rfl rfl rfl rfl (by first | exact Nat.le_of_ble_eq_true rfl | omega | (dsimp only;omega) | (simp <;> omega)) (by first | exact Nat.le_of_ble_eq_true rfl | omega | (dsimp only;omega) | (simp <;> omega)) (by first | exact Nat.le_of_ble_eq_true rfl | omega | (dsimp only;omega) | (simp <;> omega))) rfl rfl (pre1 rfl) (k':=11) rfl ?_
  refine hd_nil kr kr (c':=c+11) rfl ?_
  refine h11 _<|srg fun N h12=>sa<|snl h12<|hw_seq fun Nh13 h13=>srg fun N h14=>?_
  first
  | refine hq_ 37 (hop_fa fd_93_1 rfl) rfl rfl pre0 rfl rfl ?_
  | refine hq_ 37 (hop_fa_fp fd_93_1 rfl (by first | exact Nat.le_of_ble_eq_true rfl | omega | (dsimp only;omega) | (simp <;> omega))) rfl rfl pre0 rfl rfl ?_
  first
  | refine hq_ 38 (HOp.val (v':=boolV (tellV (L.getD i []) o.pos side).gone) (hol_load ty_4 rfl (by first | exact Nat.le_of_ble_eq_true rfl | omega | (dsimp only;omega) | (simp <;> omega)) (by first | exact Nat.le_of_ble_eq_true rfl | omega | (dsimp only;omega) | (simp <;> omega)) (fun h=>(by first | rfl | cases h))) (rfl)) rfl rfl (pre1 rfl) rfl rfl ?_
  | refine hq_ 38 (HOp.val (v':=boolV (tellV (L.getD i []) o.pos side).gone) (hop_load_fp ty_4 rfl (by first | exact Nat.le_of_ble_eq_true rfl | omega | (dsimp only;omega) | (simp <;> omega)) (fun h=>(by first | rfl | cases h))) (rfl)) rfl rfl pre0 rfl rfl ?_
  refine sm ?_
  first
  | refine stg 39 (fun hb=>hop_fa fd_47_1 rfl) rfl rfl rfl rfl rfl ?_
  | refine sth 39 (fun hb=>hop_fa fd_47_1 rfl) rfl rfl rfl rfl rfl ?_
  | refine stg 39 (fun hb=>hop_fa_fp fd_47_1 rfl (by first | exact Nat.le_of_ble_eq_true rfl | (simp at hb;first | omega | (dsimp only;omega) | (simp <;> omega)) | omega | (dsimp only;omega))) rfl rfl rfl rfl rfl ?_
  | refine sth 39 (fun hb=>hop_fa_fp fd_47_1 rfl (by first | exact Nat.le_of_ble_eq_true rfl | (simp at hb;first | omega | (dsimp only;omega) | (simp <;> omega)) | omega | (dsimp only;omega))) rfl rfl rfl rfl rfl ?_
  first
  | refine hq_g 41 2 39 true _ (fun hb=>hol_load ty_45 rfl (by first | exact Nat.le_of_ble_eq_true rfl | (simp at hb;first | omega | (dsimp only;omega) | (simp <;> omega)) | omega | (dsimp only;omega)) (by first | exact Nat.le_of_ble_eq_true rfl | (simp at hb;first | omega | (dsimp only;omega) | (simp <;> omega)) | omega | (dsimp only;omega)) (fun h=>(by first | rfl | cases h))) rfl rfl rfl rfl (pre1 rfl) rfl rfl rfl ?_
  | refine hq_g2 41 2 39 _ _ true _ (fun hb=>hol_load ty_45 rfl (by first | exact Nat.le_of_ble_eq_true rfl | (simp at hb;first | omega | (dsimp only;omega) | (simp <;> omega)) | omega | (dsimp only;omega)) (by first | exact Nat.le_of_ble_eq_true rfl | (simp at hb;first | omega | (dsimp only;omega) | (simp <;> omega)) | omega | (dsimp only;omega)) (fun h=>(by first | rfl | cases h))) rfl rfl rfl rfl (pre1 rfl) rfl rfl rfl ?_
  | refine stg 39 (fun hb=>hop_load_fp ty_45 rfl (by first | exact Nat.le_of_ble_eq_true rfl | (simp at hb;first | omega | (dsimp only;omega) | (simp <;> omega)) | omega | (dsimp only;omega)) (fun h=>(by first | rfl | cases h))) rfl rfl rfl rfl rfl ?_
  | refine sth 39 (fun hb=>hop_load_fp ty_45 rfl (by first | exact Nat.le_of_ble_eq_true rfl | (simp at hb;first | omega | (dsimp only;omega) | (simp <;> omega)) | omega | (dsimp only;omega)) (fun h=>(by first | rfl | cases h))) rfl rfl rfl rfl rfl ?_
  first
  | refine stg 39 (fun hb=>hop_move rfl) rfl rfl rfl rfl rfl ?_
  | refine sth 39 (fun hb=>hop_move rfl) rfl rfl rfl rfl rfl ?_
  first
  | refine stg 39 (fun hb=>hop_ia_sl el_45 rfl rfl (by first | exact Nat.le_of_ble_eq_true rfl | (simp at hb;first | omega | (dsimp only;omega) | (simp <;> omega)) | omega | (dsimp only;omega)) (by first | exact Nat.le_of_ble_eq_true rfl | (simp at hb;first | omega | (dsimp only;omega) | (simp <;> omega)) | omega | (dsimp only;omega)) (by first | exact Nat.le_of_ble_eq_true rfl | (simp at hb;first | omega | (dsimp only;omega) | (simp <;> omega)) | omega | (dsimp only;omega))) rfl rfl rfl rfl rfl ?_
  | refine sth 39 (fun hb=>hop_ia_sl el_45 rfl rfl (by first | exact Nat.le_of_ble_eq_true rfl | (simp at hb;first | omega | (dsimp only;omega) | (simp <;> omega)) | omega | (dsimp only;omega)) (by first | exact Nat.le_of_ble_eq_true rfl | (simp at hb;first | omega | (dsimp only;omega) | (simp <;> omega)) | omega | (dsimp only;omega)) (by first | exact Nat.le_of_ble_eq_true rfl | (simp at hb;first | omega | (dsimp only;omega) | (simp <;> omega)) | omega | (dsimp only;omega))) rfl rfl rfl rfl rfl ?_
  | refine hq_g 43 2 39 true _ (fun hb=>hol_ia_os el_45 rfl rfl (by first | exact Nat.le_of_ble_eq_true rfl | (simp at hb;first | omega | (dsimp only;omega) | (simp <;> omega)) | omega | (dsimp only;omega)) (by first | exact Nat.le_of_ble_eq_true rfl | (simp at hb;first | omega | (dsimp only;omega) | (simp <;> omega)) | omega | (dsimp only;omega))) rfl rfl rfl rfl (pre1 rfl) rfl rfl rfl ?_
  | refine hq_g2 43 2 39 _ _ true _ (fun hb=>hol_ia_os el_45 rfl rfl (by first | exact Nat.le_of_ble_eq_true rfl | (simp at hb;first | omega | (dsimp only;omega) | (simp <;> omega)) | omega | (dsimp only;omega)) (by first | exact Nat.le_of_ble_eq_true rfl | (simp at hb;first | omega | (dsimp only;omega) | (simp <;> omega)) | omega | (dsimp only;omega))) rfl rfl rfl rfl (pre1 rfl) rfl rfl rfl ?_
  first
  | refine hq_g 44 2 39 true _ (fun hb=>HOp.val (v':=intV (ofsV L mir i)) (hol_load ty_3 rfl (by first | exact Nat.le_of_ble_eq_true rfl | (simp at hb;first | omega | (dsimp only;omega) | (simp <;> omega)) | omega | (dsimp only;omega)) (by first | exact Nat.le_of_ble_eq_true rfl | (simp at hb;first | omega | (dsimp only;omega) | (simp <;> omega)) | omega | (dsimp only;omega)) (fun h=>(by first | rfl | cases h))) (rfl)) rfl rfl rfl rfl (pre1 rfl) rfl rfl rfl ?_
  | refine hq_g2 44 2 39 _ _ true _ (fun hb=>HOp.val (v':=intV (ofsV L mir i)) (hol_load ty_3 rfl (by first | exact Nat.le_of_ble_eq_true rfl | (simp at hb;first | omega | (dsimp only;omega) | (simp <;> omega)) | omega | (dsimp only;omega)) (by first | exact Nat.le_of_ble_eq_true rfl | (simp at hb;first | omega | (dsimp only;omega) | (simp <;> omega)) | omega | (dsimp only;omega)) (fun h=>(by first | rfl | cases h))) (rfl)) rfl rfl rfl rfl (pre1 rfl) rfl rfl rfl ?_
  | refine stg 39 (fun hb=>HOp.val (v':=intV (ofsV L mir i)) (hop_load_fp ty_3 rfl (by first | exact Nat.le_of_ble_eq_true rfl | (simp at hb;first | omega | (dsimp only;omega) | (simp <;> omega)) | omega | (dsimp only;omega)) (fun h=>(by first | rfl | cases h))) (rfl)) rfl rfl rfl rfl rfl ?_
  | refine sth 39 (fun hb=>HOp.val (v':=intV (ofsV L mir i)) (hop_load_fp ty_3 rfl (by first | exact Nat.le_of_ble_eq_true rfl | (simp at hb;first | omega | (dsimp only;omega) | (simp <;> omega)) | omega | (dsimp only;omega)) (fun h=>(by first | rfl | cases h))) (rfl)) rfl rfl rfl rfl rfl ?_
  first
  | refine stg 39 (fun hb=>hop_move rfl) rfl rfl rfl rfl rfl ?_
  | refine sth 39 (fun hb=>hop_move rfl) rfl rfl rfl rfl rfl ?_
  first
  | refine stg 39 (fun hb=>hop_gtr rfl rfl) rfl rfl rfl rfl rfl ?_
  | refine sth 39 (fun hb=>hop_gtr rfl rfl) rfl rfl rfl rfl rfl ?_
  first
  | refine hq_p 47 (hstep_and _ _ rfl rfl rfl) rfl rfl rfl ?_
  | refine hq_p 47 (hstep_or _ _ rfl rfl rfl) rfl rfl rfl ?_
  | refine hq_p 47 (hstep_ite _ _ _ rfl rfl rfl) rfl rfl rfl ?_
  | refine hq_p 47 (hstep_pick _ _ _ _ rfl rfl rfl (fun _=>.refl _) (fun _=>.refl _)) rfl rfl rfl ?_
  refine nu ?_
  refine h14 _ ?_
  refine wc (fun hc2=>?_) (fun hc2=>?_)
  ·have hr2:=hc2;(try simp only [hcs,Int.reduceToNat] at hc2)
   have hgn:(tellV (L.getD i []) o.pos side).gone=true∧(i:Int) < ofsV L mir i:=hc2;have hob:=ofs_bd hok hgn.2
   refine hd_start ?_
   first
   | refine hd_q 48 (hop_fa fd_47_0 rfl) rfl rfl pre0 rfl rfl (k':=1) rfl ?_
   | refine hd_q 48 (hop_fa_fp fd_47_0 rfl (by first | exact Nat.le_of_ble_eq_true rfl | omega | (dsimp only;omega) | (simp <;> omega))) rfl rfl pre0 rfl rfl (k':=1) rfl ?_
   first
   | refine hd_q 49 (hol_load ty_41 rfl (by first | exact Nat.le_of_ble_eq_true rfl | omega | (dsimp only;omega) | (simp <;> omega)) (by first | exact Nat.le_of_ble_eq_true rfl | omega | (dsimp only;omega) | (simp <;> omega)) (fun h=>(by first | rfl | cases h))) rfl rfl (pre1 rfl) rfl rfl (k':=2) rfl ?_
   | refine hd_q 49 (hop_load_fp ty_41 rfl (by first | exact Nat.le_of_ble_eq_true rfl | omega | (dsimp only;omega) | (simp <;> omega)) (fun h=>(by first | rfl | cases h))) rfl rfl pre0 rfl rfl (k':=2) rfl ?_
   first
   | refine hd_q 50 (hop_fa fd_47_1 rfl) rfl rfl pre0 rfl rfl (k':=3) rfl ?_
   | refine hd_q 50 (hop_fa_fp fd_47_1 rfl (by first | exact Nat.le_of_ble_eq_true rfl | omega | (dsimp only;omega) | (simp <;> omega))) rfl rfl pre0 rfl rfl (k':=3) rfl ?_
   first
   | refine hd_q 51 (hol_load ty_45 rfl (by first | exact Nat.le_of_ble_eq_true rfl | omega | (dsimp only;omega) | (simp <;> omega)) (by first | exact Nat.le_of_ble_eq_true rfl | omega | (dsimp only;omega) | (simp <;> omega)) (fun h=>(by first | rfl | cases h))) rfl rfl (pre1 rfl) rfl rfl (k':=4) rfl ?_
   | refine hd_q 51 (hop_load_fp ty_45 rfl (by first | exact Nat.le_of_ble_eq_true rfl | omega | (dsimp only;omega) | (simp <;> omega)) (fun h=>(by first | rfl | cases h))) rfl rfl pre0 rfl rfl (k':=4) rfl ?_
   refine dm 5 ?_
   first
   | refine hd_q 53 (hop_ia_sl el_45 rfl rfl (by first | exact Nat.le_of_ble_eq_true rfl | omega | (dsimp only;omega) | (simp <;> omega)) (by first | exact Nat.le_of_ble_eq_true rfl | omega | (dsimp only;omega) | (simp <;> omega)) (by first | exact Nat.le_of_ble_eq_true rfl | omega | (dsimp only;omega) | (simp <;> omega))) rfl rfl pre0 rfl rfl (k':=6) rfl ?_
   | refine hd_q 53 (hol_ia_os el_45 rfl rfl (by first | exact Nat.le_of_ble_eq_true rfl | omega | (dsimp only;omega) | (simp <;> omega)) (by first | exact Nat.le_of_ble_eq_true rfl | omega | (dsimp only;omega) | (simp <;> omega))) rfl rfl (pre1 rfl) rfl rfl (k':=6) rfl ?_
   first
   | refine hd_q 54 (HOp.val (v':=intV (ofsV L mir i)) (hol_load ty_3 rfl (by first | exact Nat.le_of_ble_eq_true rfl | omega | (dsimp only;omega) | (simp <;> omega)) (by first | exact Nat.le_of_ble_eq_true rfl | omega | (dsimp only;omega) | (simp <;> omega)) (fun h=>(by first | rfl | cases h))) (rfl)) rfl rfl (pre1 rfl) rfl rfl (k':=7) rfl ?_
   | refine hd_q 54 (HOp.val (v':=intV (ofsV L mir i)) (hop_load_fp ty_3 rfl (by first | exact Nat.le_of_ble_eq_true rfl | omega | (dsimp only;omega) | (simp <;> omega)) (fun h=>(by first | rfl | cases h))) (rfl)) rfl rfl pre0 rfl rfl (k':=7) rfl ?_
   first
   | refine hd_q 55 (hop_ia_sl el_41 rfl rfl (by first | exact Nat.le_of_ble_eq_true rfl | omega | (dsimp only;omega) | (simp <;> omega)) (by first | exact Nat.le_of_ble_eq_true rfl | omega | (dsimp only;omega) | (simp <;> omega)) (by first | exact Nat.le_of_ble_eq_true rfl | omega | (dsimp only;omega) | (simp <;> omega))) rfl rfl pre0 rfl rfl (k':=8) rfl ?_
   | refine hd_q 55 (hol_ia_os el_41 rfl rfl (by first | exact Nat.le_of_ble_eq_true rfl | omega | (dsimp only;omega) | (simp <;> omega)) (by first | exact Nat.le_of_ble_eq_true rfl | omega | (dsimp only;omega) | (simp <;> omega))) rfl rfl (pre1 rfl) rfl rfl (k':=8) rfl ?_
   first
   | refine hd_q 56 (HOp.val (v':=rgsV (L.getD (ofsV L mir i).toNat [])) (hol_load ty_48 rfl (by first | exact Nat.le_of_ble_eq_true rfl | omega | (dsimp only;omega) | (simp <;> omega)) (by first | exact Nat.le_of_ble_eq_true rfl | omega | (dsimp only;omega) | (simp <;> omega)) (fun h=>(by first | rfl | cases h))) (rfl)) rfl rfl (pre1 rfl) rfl rfl (k':=9) rfl ?_
   | refine hd_q 56 (HOp.val (v':=rgsV (L.getD (ofsV L mir i).toNat [])) (hop_load_fp ty_48 rfl (by first | exact Nat.le_of_ble_eq_true rfl | omega | (dsimp only;omega) | (simp <;> omega)) (fun h=>(by first | rfl | cases h))) (rfl)) rfl rfl pre0 rfl rfl (k':=9) rfl ?_
   first
   | refine hd_q 57 (hop_fa fd_93_3 rfl) rfl rfl pre0 rfl rfl (k':=10) rfl ?_
   | refine hd_q 57 (hop_fa_fp fd_93_3 rfl (by first | exact Nat.le_of_ble_eq_true rfl | omega | (dsimp only;omega) | (simp <;> omega))) rfl rfl pre0 rfl rfl (k':=10) rfl ?_
   first
   | refine hd_q 58 (HOp.val (v':=intV (tellV (L.getD i []) o.pos side).rng) (hol_load ty_3 rfl (by first | exact Nat.le_of_ble_eq_true rfl | omega | (dsimp only;omega) | (simp <;> omega)) (by first | exact Nat.le_of_ble_eq_true rfl | omega | (dsimp only;omega) | (simp <;> omega)) (fun h=>(by first | rfl | cases h))) (rfl)) rfl rfl (pre1 rfl) rfl rfl (k':=11) rfl ?_
   | refine hd_q 58 (HOp.val (v':=intV (tellV (L.getD i []) o.pos side).rng) (hop_load_fp ty_3 rfl (by first | exact Nat.le_of_ble_eq_true rfl | omega | (dsimp only;omega) | (simp <;> omega)) (fun h=>(by first | rfl | cases h))) (rfl)) rfl rfl pre0 rfl rfl (k':=11) rfl ?_
   first
   | refine hd_q 59 (hop_fa fd_93_4 rfl) rfl rfl pre0 rfl rfl (k':=12) rfl ?_
   | refine hd_q 59 (hop_fa_fp fd_93_4 rfl (by first | exact Nat.le_of_ble_eq_true rfl | omega | (dsimp only;omega) | (simp <;> omega))) rfl rfl pre0 rfl rfl (k':=12) rfl ?_
   first
   | refine hd_q 60 (HOp.val (v':=intV (tellV (L.getD i []) o.pos side).off) (hol_load ty_3 rfl (by first | exact Nat.le_of_ble_eq_true rfl | omega | (dsimp only;omega) | (simp <;> omega)) (by first | exact Nat.le_of_ble_eq_true rfl | omega | (dsimp only;omega) | (simp <;> omega)) (fun h=>(by first | rfl | cases h))) (rfl)) rfl rfl (pre1 rfl) rfl rfl (k':=13) rfl ?_
   | refine hd_q 60 (HOp.val (v':=intV (tellV (L.getD i []) o.pos side).off) (hop_load_fp ty_3 rfl (by first | exact Nat.le_of_ble_eq_true rfl | omega | (dsimp only;omega) | (simp <;> omega)) (fun h=>(by first | rfl | cases h))) (rfl)) rfl rfl pre0 rfl rfl (k':=13) rfl ?_
   refine d0 14 (hop_call0 (xs:=[_,_,_]) (recover23_h (L.getD (ofsV L mir i).toNat []) (tellV (L.getD i []) o.pos side).rng (tellV (L.getD i []) o.pos side).off htb.2.2.2.2.2) ⟨rfl,⟨rfl,⟨rfl,trivial⟩⟩⟩ ⟨fe,⟨fe,⟨fe,trivial⟩⟩⟩) ?_
   refine d0 15 (hop_assign rfl) ?_
   refine hd_nil kr kr (c':=c+26) rfl ?_
   refine h13 _<|hw_seq fun Nh15 h15=>srg fun N h16=>sm ?_
   refine s0 (hop_geq rfl rfl) ?_
   refine snl h16 ?_
   refine wc (fun hc3=>?_) (fun hc3=>?_)
   ·have hr3:=hc3;(try simp only [hcs,Int.reduceToNat] at hc3)
    have e2:recd L mir i (tellV (L.getD i []) o.pos side)=some ((ofsV L mir i).toNat,(recV (L.getD (ofsV L mir i).toNat []) (tellV (L.getD i []) o.pos side).rng (tellV (L.getD i []) o.pos side).off).getD (-1)):=(by rw [rd24_yes hgn];rw [rd24_some hc3];rfl)
    refine srg fun N h17=>sm ?_
    first
    | refine hq_ 65 (hop_fa fd_93_0 rfl) rfl rfl pre0 rfl rfl ?_
    | refine hq_ 65 (hop_fa_fp fd_93_0 rfl (by first | exact Nat.le_of_ble_eq_true rfl | omega | (dsimp only;omega) | (simp <;> omega))) rfl rfl pre0 rfl rfl ?_
    first
    | refine hm_s1 (hol_storeW ty_3 rfl rfl rfl rfl) rfl rfl (pre1 rfl) (c':=c+27) rfl ?_
    | refine hm_s1 (hol_store ty_3 rfl rfl rfl rfl (by first | exact Nat.le_of_ble_eq_true rfl | omega | (dsimp only;omega) | (simp <;> omega)) (by first | exact Nat.le_of_ble_eq_true rfl | omega | (dsimp only;omega) | (simp <;> omega)) (by first | exact Nat.le_of_ble_eq_true rfl | omega | (dsimp only;omega) | (simp <;> omega))) rfl rfl (pre1 rfl) (c':=c+27) rfl ?_
    refine snl h17<|srg fun N h18=>?_
    first
    | refine hq_ 66 (hop_fa fd_47_1 rfl) rfl rfl pre0 rfl rfl ?_
    | refine hq_ 66 (hop_fa_fp fd_47_1 rfl (by first | exact Nat.le_of_ble_eq_true rfl | omega | (dsimp only;omega) | (simp <;> omega))) rfl rfl pre0 rfl rfl ?_
    first
    | refine hq_ 67 (hol_load ty_45 rfl (by first | exact Nat.le_of_ble_eq_true rfl | omega | (dsimp only;omega) | (simp <;> omega)) (by first | exact Nat.le_of_ble_eq_true rfl | omega | (dsimp only;omega) | (simp <;> omega)) (fun h=>(by first | rfl | cases h))) rfl rfl (pre1 rfl) rfl rfl ?_
    | refine hq_ 67 (hop_load_fp ty_45 rfl (by first | exact Nat.le_of_ble_eq_true rfl | omega | (dsimp only;omega) | (simp <;> omega)) (fun h=>(by first | rfl | cases h))) rfl rfl pre0 rfl rfl ?_
    refine sm ?_
    first
    | refine hq_ 69 (hop_ia_sl el_45 rfl rfl (by first | exact Nat.le_of_ble_eq_true rfl | omega | (dsimp only;omega) | (simp <;> omega)) (by first | exact Nat.le_of_ble_eq_true rfl | omega | (dsimp only;omega) | (simp <;> omega)) (by first | exact Nat.le_of_ble_eq_true rfl | omega | (dsimp only;omega) | (simp <;> omega))) rfl rfl pre0 rfl rfl ?_
    | refine hq_ 69 (hol_ia_os el_45 rfl rfl (by first | exact Nat.le_of_ble_eq_true rfl | omega | (dsimp only;omega) | (simp <;> omega)) (by first | exact Nat.le_of_ble_eq_true rfl | omega | (dsimp only;omega) | (simp <;> omega))) rfl rfl (pre1 rfl) rfl rfl ?_
    first
    | refine hq_ 70 (HOp.val (v':=intV (ofsV L mir i)) (hol_load ty_3 rfl (by first | exact Nat.le_of_ble_eq_true rfl | omega | (dsimp only;omega) | (simp <;> omega)) (by first | exact Nat.le_of_ble_eq_true rfl | omega | (dsimp only;omega) | (simp <;> omega)) (fun h=>(by first | rfl | cases h))) (rfl)) rfl rfl (pre1 rfl) rfl rfl ?_
    | refine hq_ 70 (HOp.val (v':=intV (ofsV L mir i)) (hop_load_fp ty_3 rfl (by first | exact Nat.le_of_ble_eq_true rfl | omega | (dsimp only;omega) | (simp <;> omega)) (fun h=>(by first | rfl | cases h))) (rfl)) rfl rfl pre0 rfl rfl ?_
    first
    | refine hq_ 71 (hop_addi rfl rfl rfl (by first | exact Nat.le_of_ble_eq_true rfl | omega | (dsimp only;omega) | (simp <;> omega)) (by first | exact Nat.le_of_ble_eq_true rfl | omega | (dsimp only;omega) | (simp <;> omega))) rfl rfl pre0 rfl rfl ?_
    | refine hq_ 71 (hop_add rfl rfl) rfl rfl pre0 rfl rfl ?_
    refine sa<|snl h18 ?_
    refine hw_exit ?_
    refine hq_then_exit<|hq_block_here ?_
    exact hL5 (((ofsV L mir i).toNat+1,⟨(recV (L.getD (ofsV L mir i).toNat []) (tellV (L.getD i []) o.pos side).rng (tellV (L.getD i []) o.pos side).off).getD (-1),o.gone,o.ins,o.rng,o.off⟩)) _ _ (by (try dsimp only);exact ⟨by omega,by rw [←hgo,goV_rec hlt hgood e2]⟩) (by (try dsimp only);omega) (hsub_of rfl (Nat.le_refl _) (tsr rfl (tsr rfl (tsr rfl (tsr rfl (TmSub.cons rfl (sb_intV (show ofsV L mir i+1=(((ofsV L mir i).toNat+1:Nat):Int) by omega)) TmSub.nil))))) (hsr rfl (hsr rfl (HpSub.cons rfl (osub_plcT (by exact j5i rfl rfl rfl rfl rfl)) HpSub.nil))))
   have hr3:=hc3;(try simp only [hcs,Int.reduceToNat] at hc3)
   have e2:recd L mir i (tellV (L.getD i []) o.pos side)=none:=(by rw [rd24_yes hgn];rw [rd24_none om];rfl)
   refine hw_skip<|h15 _<|srg fun N h19=>?_
   first
   | refine hq_ 72 (hop_fa fd_93_0 rfl) rfl rfl pre0 rfl rfl ?_
   | refine hq_ 72 (hop_fa_fp fd_93_0 rfl (by first | exact Nat.le_of_ble_eq_true rfl | omega | (dsimp only;omega) | (simp <;> omega))) rfl rfl pre0 rfl rfl ?_
   first
   | refine hq_ 73 (HOp.val (v':=intV (tellV (L.getD i []) o.pos side).pos) (hol_load ty_3 rfl (by first | exact Nat.le_of_ble_eq_true rfl | omega | (dsimp only;omega) | (simp <;> omega)) (by first | exact Nat.le_of_ble_eq_true rfl | omega | (dsimp only;omega) | (simp <;> omega)) (fun h=>(by first | rfl | cases h))) (rfl)) rfl rfl (pre1 rfl) rfl rfl ?_
   | refine hq_ 73 (HOp.val (v':=intV (tellV (L.getD i []) o.pos side).pos) (hop_load_fp ty_3 rfl (by first | exact Nat.le_of_ble_eq_true rfl | omega | (dsimp only;omega) | (simp <;> omega)) (fun h=>(by first | rfl | cases h))) (rfl)) rfl rfl pre0 rfl rfl ?_
   first
   | refine hq_ 74 (hop_fa fd_93_0 rfl) rfl rfl pre0 rfl rfl ?_
   | refine hq_ 74 (hop_fa_fp fd_93_0 rfl (by first | exact Nat.le_of_ble_eq_true rfl | omega | (dsimp only;omega) | (simp <;> omega))) rfl rfl pre0 rfl rfl ?_
   first
   | refine hm_s1 (hol_storeW ty_3 rfl rfl rfl rfl) rfl rfl (pre1 rfl) (c':=c+27) rfl ?_
   | refine hm_s1 (hol_store ty_3 rfl rfl rfl rfl (by first | exact Nat.le_of_ble_eq_true rfl | omega | (dsimp only;omega) | (simp <;> omega)) (by first | exact Nat.le_of_ble_eq_true rfl | omega | (dsimp only;omega) | (simp <;> omega)) (by first | exact Nat.le_of_ble_eq_true rfl | omega | (dsimp only;omega) | (simp <;> omega))) rfl rfl (pre1 rfl) (c':=c+27) rfl ?_
   refine snl h19<|srg fun N h20=>?_
   first
   | refine hq_ 75 (hop_fa fd_93_1 rfl) rfl rfl pre0 rfl rfl ?_
   | refine hq_ 75 (hop_fa_fp fd_93_1 rfl (by first | exact Nat.le_of_ble_eq_true rfl | omega | (dsimp only;omega) | (simp <;> omega))) rfl rfl pre0 rfl rfl ?_
   first
   | refine hq_ 76 (HOp.val (v':=boolV o.gone) (hol_load ty_4 rfl (by first | exact Nat.le_of_ble_eq_true rfl | omega | (dsimp only;omega) | (simp <;> omega)) (by first | exact Nat.le_of_ble_eq_true rfl | omega | (dsimp only;omega) | (simp <;> omega)) (fun h=>(by first | rfl | cases h))) (rfl)) rfl rfl (pre1 rfl) rfl rfl ?_
   | refine hq_ 76 (HOp.val (v':=boolV o.gone) (hop_load_fp ty_4 rfl (by first | exact Nat.le_of_ble_eq_true rfl | omega | (dsimp only;omega) | (simp <;> omega)) (fun h=>(by first | rfl | cases h))) (rfl)) rfl rfl pre0 rfl rfl ?_
   refine sm ?_
   first
   | refine stg 77 (fun hb=>hop_fa fd_93_1 rfl) rfl rfl rfl rfl rfl ?_
   | refine sth 77 (fun hb=>hop_fa fd_93_1 rfl) rfl rfl rfl rfl rfl ?_
   | refine stg 77 (fun hb=>hop_fa_fp fd_93_1 rfl (by first | exact Nat.le_of_ble_eq_true rfl | (simp at hb;first | omega | (dsimp only;omega) | (simp <;> omega)) | omega | (dsimp only;omega))) rfl rfl rfl rfl rfl ?_
   | refine sth 77 (fun hb=>hop_fa_fp fd_93_1 rfl (by first | exact Nat.le_of_ble_eq_true rfl | (simp at hb;first | omega | (dsimp only;omega) | (simp <;> omega)) | omega | (dsimp only;omega))) rfl rfl rfl rfl rfl ?_
   first
   | refine hq_g 79 2 77 false _ (fun hb=>HOp.val (v':=boolV (tellV (L.getD i []) o.pos side).gone) (hol_load ty_4 rfl (by first | exact Nat.le_of_ble_eq_true rfl | (simp at hb;first | omega | (dsimp only;omega) | (simp <;> omega)) | omega | (dsimp only;omega)) (by first | exact Nat.le_of_ble_eq_true rfl | (simp at hb;first | omega | (dsimp only;omega) | (simp <;> omega)) | omega | (dsimp only;omega)) (fun h=>(by first | rfl | cases h))) (rfl)) rfl rfl rfl rfl (pre1 rfl) rfl rfl rfl ?_
   | refine hq_g2 79 2 77 _ _ false _ (fun hb=>HOp.val (v':=boolV (tellV (L.getD i []) o.pos side).gone) (hol_load ty_4 rfl (by first | exact Nat.le_of_ble_eq_true rfl | (simp at hb;first | omega | (dsimp only;omega) | (simp <;> omega)) | omega | (dsimp only;omega)) (by first | exact Nat.le_of_ble_eq_true rfl | (simp at hb;first | omega | (dsimp only;omega) | (simp <;> omega)) | omega | (dsimp only;omega)) (fun h=>(by first | rfl | cases h))) (rfl)) rfl rfl rfl rfl (pre1 rfl) rfl rfl rfl ?_
   | refine stg 77 (fun hb=>HOp.val (v':=boolV (tellV (L.getD i []) o.pos side).gone) (hop_load_fp ty_4 rfl (by first | exact Nat.le_of_ble_eq_true rfl | (simp at hb;first | omega | (dsimp only;omega) | (simp <;> omega)) | omega | (dsimp only;omega)) (fun h=>(by first | rfl | cases h))) (rfl)) rfl rfl rfl rfl rfl ?_
   | refine sth 77 (fun hb=>HOp.val (v':=boolV (tellV (L.getD i []) o.pos side).gone) (hop_load_fp ty_4 rfl (by first | exact Nat.le_of_ble_eq_true rfl | (simp at hb;first | omega | (dsimp only;omega) | (simp <;> omega)) | omega | (dsimp only;omega)) (fun h=>(by first | rfl | cases h))) (rfl)) rfl rfl rfl rfl rfl ?_
   first
   | refine hq_p 80 (hstep_and _ _ rfl rfl rfl) rfl rfl rfl ?_
   | refine hq_p 80 (hstep_or _ _ rfl rfl rfl) rfl rfl rfl ?_
   | refine hq_p 80 (hstep_ite _ _ _ rfl rfl rfl) rfl rfl rfl ?_
   | refine hq_p 80 (hstep_pick _ _ _ _ rfl rfl rfl (fun _=>.refl _) (fun _=>.refl _)) rfl rfl rfl ?_
   first
   | refine hq_ 81 (hop_fa fd_93_1 rfl) rfl rfl pre0 rfl rfl ?_
   | refine hq_ 81 (hop_fa_fp fd_93_1 rfl (by first | exact Nat.le_of_ble_eq_true rfl | omega | (dsimp only;omega) | (simp <;> omega))) rfl rfl pre0 rfl rfl ?_
   first
   | refine hm_s1 (hol_storeW ty_4 rfl rfl rfl rfl) rfl rfl (pre1 rfl) (c':=c+28) rfl ?_
   | refine hm_s1 (hol_store ty_4 rfl rfl rfl rfl (by first | exact Nat.le_of_ble_eq_true rfl | omega | (dsimp only;omega) | (simp <;> omega)) (by first | exact Nat.le_of_ble_eq_true rfl | omega | (dsimp only;omega) | (simp <;> omega)) (by first | exact Nat.le_of_ble_eq_true rfl | omega | (dsimp only;omega) | (simp <;> omega))) rfl rfl (pre1 rfl) (c':=c+28) rfl ?_
   refine nu ?_
   refine h20 _<|srg fun N h21=>?_
   first
   | refine hq_ 82 (hop_fa fd_93_2 rfl) rfl rfl pre0 rfl rfl ?_
   | refine hq_ 82 (hop_fa_fp fd_93_2 rfl (by first | exact Nat.le_of_ble_eq_true rfl | omega | (dsimp only;omega) | (simp <;> omega))) rfl rfl pre0 rfl rfl ?_
   first
   | refine hq_ 83 (HOp.val (v':=boolV o.ins) (hol_load ty_4 rfl (by first | exact Nat.le_of_ble_eq_true rfl | omega | (dsimp only;omega) | (simp <;> omega)) (by first | exact Nat.le_of_ble_eq_true rfl | omega | (dsimp only;omega) | (simp <;> omega)) (fun h=>(by first | rfl | cases h))) (rfl)) rfl rfl (pre1 rfl) rfl rfl ?_
   | refine hq_ 83 (HOp.val (v':=boolV o.ins) (hop_load_fp ty_4 rfl (by first | exact Nat.le_of_ble_eq_true rfl | omega | (dsimp only;omega) | (simp <;> omega)) (fun h=>(by first | rfl | cases h))) (rfl)) rfl rfl pre0 rfl rfl ?_
   refine sm ?_
   first
   | refine stg 84 (fun hb=>hop_fa fd_93_2 rfl) rfl rfl rfl rfl rfl ?_
   | refine sth 84 (fun hb=>hop_fa fd_93_2 rfl) rfl rfl rfl rfl rfl ?_
   | refine stg 84 (fun hb=>hop_fa_fp fd_93_2 rfl (by first | exact Nat.le_of_ble_eq_true rfl | (simp at hb;first | omega | (dsimp only;omega) | (simp <;> omega)) | omega | (dsimp only;omega))) rfl rfl rfl rfl rfl ?_
   | refine sth 84 (fun hb=>hop_fa_fp fd_93_2 rfl (by first | exact Nat.le_of_ble_eq_true rfl | (simp at hb;first | omega | (dsimp only;omega) | (simp <;> omega)) | omega | (dsimp only;omega))) rfl rfl rfl rfl rfl ?_
   first
   | refine hq_g 86 2 84 false _ (fun hb=>HOp.val (v':=boolV (tellV (L.getD i []) o.pos side).ins) (hol_load ty_4 rfl (by first | exact Nat.le_of_ble_eq_true rfl | (simp at hb;first | omega | (dsimp only;omega) | (simp <;> omega)) | omega | (dsimp only;omega)) (by first | exact Nat.le_of_ble_eq_true rfl | (simp at hb;first | omega | (dsimp only;omega) | (simp <;> omega)) | omega | (dsimp only;omega)) (fun h=>(by first | rfl | cases h))) (rfl)) rfl rfl rfl rfl (pre1 rfl) rfl rfl rfl ?_
   | refine hq_g2 86 2 84 _ _ false _ (fun hb=>HOp.val (v':=boolV (tellV (L.getD i []) o.pos side).ins) (hol_load ty_4 rfl (by first | exact Nat.le_of_ble_eq_true rfl | (simp at hb;first | omega | (dsimp only;omega) | (simp <;> omega)) | omega | (dsimp only;omega)) (by first | exact Nat.le_of_ble_eq_true rfl | (simp at hb;first | omega | (dsimp only;omega) | (simp <;> omega)) | omega | (dsimp only;omega)) (fun h=>(by first | rfl | cases h))) (rfl)) rfl rfl rfl rfl (pre1 rfl) rfl rfl rfl ?_
   | refine stg 84 (fun hb=>HOp.val (v':=boolV (tellV (L.getD i []) o.pos side).ins) (hop_load_fp ty_4 rfl (by first | exact Nat.le_of_ble_eq_true rfl | (simp at hb;first | omega | (dsimp only;omega) | (simp <;> omega)) | omega | (dsimp only;omega)) (fun h=>(by first | rfl | cases h))) (rfl)) rfl rfl rfl rfl rfl ?_
   | refine sth 84 (fun hb=>HOp.val (v':=boolV (tellV (L.getD i []) o.pos side).ins) (hop_load_fp ty_4 rfl (by first | exact Nat.le_of_ble_eq_true rfl | (simp at hb;first | omega | (dsimp only;omega) | (simp <;> omega)) | omega | (dsimp only;omega)) (fun h=>(by first | rfl | cases h))) (rfl)) rfl rfl rfl rfl rfl ?_
   first
   | refine hq_p 87 (hstep_and _ _ rfl rfl rfl) rfl rfl rfl ?_
   | refine hq_p 87 (hstep_or _ _ rfl rfl rfl) rfl rfl rfl ?_
   | refine hq_p 87 (hstep_ite _ _ _ rfl rfl rfl) rfl rfl rfl ?_
   | refine hq_p 87 (hstep_pick _ _ _ _ rfl rfl rfl (fun _=>.refl _) (fun _=>.refl _)) rfl rfl rfl ?_
   first
   | refine hq_ 88 (hop_fa fd_93_2 rfl) rfl rfl pre0 rfl rfl ?_
   | refine hq_ 88 (hop_fa_fp fd_93_2 rfl (by first | exact Nat.le_of_ble_eq_true rfl | omega | (dsimp only;omega) | (simp <;> omega))) rfl rfl pre0 rfl rfl ?_
   first
   | refine hm_s1 (hol_storeW ty_4 rfl rfl rfl rfl) rfl rfl (pre1 rfl) (c':=c+29) rfl ?_
   | refine hm_s1 (hol_store ty_4 rfl rfl rfl rfl (by first | exact Nat.le_of_ble_eq_true rfl | omega | (dsimp only;omega) | (simp <;> omega)) (by first | exact Nat.le_of_ble_eq_true rfl | omega | (dsimp only;omega) | (simp <;> omega)) (by first | exact Nat.le_of_ble_eq_true rfl | omega | (dsimp only;omega) | (simp <;> omega))) rfl rfl (pre1 rfl) (c':=c+29) rfl ?_
   refine nu ?_
   refine h21 _<|hw_region<|sm ?_
   first
   | refine hq_ 90 (hop_addi rfl rfl rfl (by first | exact Nat.le_of_ble_eq_true rfl | omega | (dsimp only;omega) | (simp <;> omega)) (by first | exact Nat.le_of_ble_eq_true rfl | omega | (dsimp only;omega) | (simp <;> omega))) rfl rfl pre0 rfl rfl ?_
   | refine hq_ 90 (hop_add rfl rfl) rfl rfl pre0 rfl rfl ?_
   refine sa<|hseq_nil<|hq_block ?_
   exact hL5 ((i+1,⟨(tellV (L.getD i []) o.pos side).pos,o.gone||(tellV (L.getD i []) o.pos side).gone,o.ins||(tellV (L.getD i []) o.pos side).ins,o.rng,o.off⟩)) _ _ (by (try dsimp only);exact ⟨by omega,by rw [←hgo,goV_on hlt hgood e2]⟩) (by (try dsimp only);omega) (hsub_of rfl (Nat.le_refl _) tsa (hsr rfl (hsr rfl (HpSub.cons rfl (osub_plcT (by exact j5i rfl rfl rfl rfl rfl)) HpSub.nil))))
  have hr2:=hc2;(try simp only [hcs,Int.reduceToNat] at hc2)
  refine hw_skip<|h13 _<|hw_seq fun Nh22 h22=>srg fun N h23=>sm ?_
  refine s0 (hop_geq rfl rfl) ?_
  refine snl h23 ?_
  refine wc (fun hc3=>?_) (fun hc3=>?_)
  ·have hr3:=hc3;(try simp only [hcs,Int.reduceToNat] at hc3)
   exfalso;omega
  have hr3:=hc3;(try simp only [hcs,Int.reduceToNat] at hc3)
  have e2:recd L mir i (tellV (L.getD i []) o.pos side)=none:=rd24_no hok (by have h9:=hr2;simp at h9;rintro ⟨h1,h2⟩;have:=h9 h1;omega)
  refine hw_skip<|h22 _<|srg fun N h24=>?_
  first
  | refine hq_ 72 (hop_fa fd_93_0 rfl) rfl rfl pre0 rfl rfl ?_
  | refine hq_ 72 (hop_fa_fp fd_93_0 rfl (by first | exact Nat.le_of_ble_eq_true rfl | omega | (dsimp only;omega) | (simp <;> omega))) rfl rfl pre0 rfl rfl ?_
  first
  | refine hq_ 73 (HOp.val (v':=intV (tellV (L.getD i []) o.pos side).pos) (hol_load ty_3 rfl (by first | exact Nat.le_of_ble_eq_true rfl | omega | (dsimp only;omega) | (simp <;> omega)) (by first | exact Nat.le_of_ble_eq_true rfl | omega | (dsimp only;omega) | (simp <;> omega)) (fun h=>(by first | rfl | cases h))) (rfl)) rfl rfl (pre1 rfl) rfl rfl ?_
  | refine hq_ 73 (HOp.val (v':=intV (tellV (L.getD i []) o.pos side).pos) (hop_load_fp ty_3 rfl (by first | exact Nat.le_of_ble_eq_true rfl | omega | (dsimp only;omega) | (simp <;> omega)) (fun h=>(by first | rfl | cases h))) (rfl)) rfl rfl pre0 rfl rfl ?_
  first
  | refine hq_ 74 (hop_fa fd_93_0 rfl) rfl rfl pre0 rfl rfl ?_
  | refine hq_ 74 (hop_fa_fp fd_93_0 rfl (by first | exact Nat.le_of_ble_eq_true rfl | omega | (dsimp only;omega) | (simp <;> omega))) rfl rfl pre0 rfl rfl ?_
  first
  | refine hm_s1 (hol_storeW ty_3 rfl rfl rfl rfl) rfl rfl (pre1 rfl) (c':=c+12) rfl ?_
  | refine hm_s1 (hol_store ty_3 rfl rfl rfl rfl (by first | exact Nat.le_of_ble_eq_true rfl | omega | (dsimp only;omega) | (simp <;> omega)) (by first | exact Nat.le_of_ble_eq_true rfl | omega | (dsimp only;omega) | (simp <;> omega)) (by first | exact Nat.le_of_ble_eq_true rfl | omega | (dsimp only;omega) | (simp <;> omega))) rfl rfl (pre1 rfl) (c':=c+12) rfl ?_
  refine snl h24<|srg fun N h25=>?_
  first
  | refine hq_ 75 (hop_fa fd_93_1 rfl) rfl rfl pre0 rfl rfl ?_
  | refine hq_ 75 (hop_fa_fp fd_93_1 rfl (by first | exact Nat.le_of_ble_eq_true rfl | omega | (dsimp only;omega) | (simp <;> omega))) rfl rfl pre0 rfl rfl ?_
  first
  | refine hq_ 76 (HOp.val (v':=boolV o.gone) (hol_load ty_4 rfl (by first | exact Nat.le_of_ble_eq_true rfl | omega | (dsimp only;omega) | (simp <;> omega)) (by first | exact Nat.le_of_ble_eq_true rfl | omega | (dsimp only;omega) | (simp <;> omega)) (fun h=>(by first | rfl | cases h))) (rfl)) rfl rfl (pre1 rfl) rfl rfl ?_
  | refine hq_ 76 (HOp.val (v':=boolV o.gone) (hop_load_fp ty_4 rfl (by first | exact Nat.le_of_ble_eq_true rfl | omega | (dsimp only;omega) | (simp <;> omega)) (fun h=>(by first | rfl | cases h))) (rfl)) rfl rfl pre0 rfl rfl ?_
  refine sm ?_
  first
  | refine stg 77 (fun hb=>hop_fa fd_93_1 rfl) rfl rfl rfl rfl rfl ?_
  | refine sth 77 (fun hb=>hop_fa fd_93_1 rfl) rfl rfl rfl rfl rfl ?_
  | refine stg 77 (fun hb=>hop_fa_fp fd_93_1 rfl (by first | exact Nat.le_of_ble_eq_true rfl | (simp at hb;first | omega | (dsimp only;omega) | (simp <;> omega)) | omega | (dsimp only;omega))) rfl rfl rfl rfl rfl ?_
  | refine sth 77 (fun hb=>hop_fa_fp fd_93_1 rfl (by first | exact Nat.le_of_ble_eq_true rfl | (simp at hb;first | omega | (dsimp only;omega) | (simp <;> omega)) | omega | (dsimp only;omega))) rfl rfl rfl rfl rfl ?_
  first
  | refine hq_g 79 2 77 false _ (fun hb=>HOp.val (v':=boolV (tellV (L.getD i []) o.pos side).gone) (hol_load ty_4 rfl (by first | exact Nat.le_of_ble_eq_true rfl | (simp at hb;first | omega | (dsimp only;omega) | (simp <;> omega)) | omega | (dsimp only;omega)) (by first | exact Nat.le_of_ble_eq_true rfl | (simp at hb;first | omega | (dsimp only;omega) | (simp <;> omega)) | omega | (dsimp only;omega)) (fun h=>(by first | rfl | cases h))) (rfl)) rfl rfl rfl rfl (pre1 rfl) rfl rfl rfl ?_
  | refine hq_g2 79 2 77 _ _ false _ (fun hb=>HOp.val (v':=boolV (tellV (L.getD i []) o.pos side).gone) (hol_load ty_4 rfl (by first | exact Nat.le_of_ble_eq_true rfl | (simp at hb;first | omega | (dsimp only;omega) | (simp <;> omega)) | omega | (dsimp only;omega)) (by first | exact Nat.le_of_ble_eq_true rfl | (simp at hb;first | omega | (dsimp only;omega) | (simp <;> omega)) | omega | (dsimp only;omega)) (fun h=>(by first | rfl | cases h))) (rfl)) rfl rfl rfl rfl (pre1 rfl) rfl rfl rfl ?_
  | refine stg 77 (fun hb=>HOp.val (v':=boolV (tellV (L.getD i []) o.pos side).gone) (hop_load_fp ty_4 rfl (by first | exact Nat.le_of_ble_eq_true rfl | (simp at hb;first | omega | (dsimp only;omega) | (simp <;> omega)) | omega | (dsimp only;omega)) (fun h=>(by first | rfl | cases h))) (rfl)) rfl rfl rfl rfl rfl ?_
  | refine sth 77 (fun hb=>HOp.val (v':=boolV (tellV (L.getD i []) o.pos side).gone) (hop_load_fp ty_4 rfl (by first | exact Nat.le_of_ble_eq_true rfl | (simp at hb;first | omega | (dsimp only;omega) | (simp <;> omega)) | omega | (dsimp only;omega)) (fun h=>(by first | rfl | cases h))) (rfl)) rfl rfl rfl rfl rfl ?_
  first
  | refine hq_p 80 (hstep_and _ _ rfl rfl rfl) rfl rfl rfl ?_
  | refine hq_p 80 (hstep_or _ _ rfl rfl rfl) rfl rfl rfl ?_
  | refine hq_p 80 (hstep_ite _ _ _ rfl rfl rfl) rfl rfl rfl ?_
  | refine hq_p 80 (hstep_pick _ _ _ _ rfl rfl rfl (fun _=>.refl _) (fun _=>.refl _)) rfl rfl rfl ?_
  first
  | refine hq_ 81 (hop_fa fd_93_1 rfl) rfl rfl pre0 rfl rfl ?_
  | refine hq_ 81 (hop_fa_fp fd_93_1 rfl (by first | exact Nat.le_of_ble_eq_true rfl | omega | (dsimp only;omega) | (simp <;> omega))) rfl rfl pre0 rfl rfl ?_
  first
  | refine hm_s1 (hol_storeW ty_4 rfl rfl rfl rfl) rfl rfl (pre1 rfl) (c':=c+13) rfl ?_
  | refine hm_s1 (hol_store ty_4 rfl rfl rfl rfl (by first | exact Nat.le_of_ble_eq_true rfl | omega | (dsimp only;omega) | (simp <;> omega)) (by first | exact Nat.le_of_ble_eq_true rfl | omega | (dsimp only;omega) | (simp <;> omega)) (by first | exact Nat.le_of_ble_eq_true rfl | omega | (dsimp only;omega) | (simp <;> omega))) rfl rfl (pre1 rfl) (c':=c+13) rfl ?_
  refine nu ?_
  refine h25 _<|srg fun N h26=>?_
  first
  | refine hq_ 82 (hop_fa fd_93_2 rfl) rfl rfl pre0 rfl rfl ?_
  | refine hq_ 82 (hop_fa_fp fd_93_2 rfl (by first | exact Nat.le_of_ble_eq_true rfl | omega | (dsimp only;omega) | (simp <;> omega))) rfl rfl pre0 rfl rfl ?_
  first
  | refine hq_ 83 (HOp.val (v':=boolV o.ins) (hol_load ty_4 rfl (by first | exact Nat.le_of_ble_eq_true rfl | omega | (dsimp only;omega) | (simp <;> omega)) (by first | exact Nat.le_of_ble_eq_true rfl | omega | (dsimp only;omega) | (simp <;> omega)) (fun h=>(by first | rfl | cases h))) (rfl)) rfl rfl (pre1 rfl) rfl rfl ?_
  | refine hq_ 83 (HOp.val (v':=boolV o.ins) (hop_load_fp ty_4 rfl (by first | exact Nat.le_of_ble_eq_true rfl | omega | (dsimp only;omega) | (simp <;> omega)) (fun h=>(by first | rfl | cases h))) (rfl)) rfl rfl pre0 rfl rfl ?_
  refine sm ?_
  first
  | refine stg 84 (fun hb=>hop_fa fd_93_2 rfl) rfl rfl rfl rfl rfl ?_
  | refine sth 84 (fun hb=>hop_fa fd_93_2 rfl) rfl rfl rfl rfl rfl ?_
  | refine stg 84 (fun hb=>hop_fa_fp fd_93_2 rfl (by first | exact Nat.le_of_ble_eq_true rfl | (simp at hb;first | omega | (dsimp only;omega) | (simp <;> omega)) | omega | (dsimp only;omega))) rfl rfl rfl rfl rfl ?_
  | refine sth 84 (fun hb=>hop_fa_fp fd_93_2 rfl (by first | exact Nat.le_of_ble_eq_true rfl | (simp at hb;first | omega | (dsimp only;omega) | (simp <;> omega)) | omega | (dsimp only;omega))) rfl rfl rfl rfl rfl ?_
  first
  | refine hq_g 86 2 84 false _ (fun hb=>HOp.val (v':=boolV (tellV (L.getD i []) o.pos side).ins) (hol_load ty_4 rfl (by first | exact Nat.le_of_ble_eq_true rfl | (simp at hb;first | omega | (dsimp only;omega) | (simp <;> omega)) | omega | (dsimp only;omega)) (by first | exact Nat.le_of_ble_eq_true rfl | (simp at hb;first | omega | (dsimp only;omega) | (simp <;> omega)) | omega | (dsimp only;omega)) (fun h=>(by first | rfl | cases h))) (rfl)) rfl rfl rfl rfl (pre1 rfl) rfl rfl rfl ?_
  | refine hq_g2 86 2 84 _ _ false _ (fun hb=>HOp.val (v':=boolV (tellV (L.getD i []) o.pos side).ins) (hol_load ty_4 rfl (by first | exact Nat.le_of_ble_eq_true rfl | (simp at hb;first | omega | (dsimp only;omega) | (simp <;> omega)) | omega | (dsimp only;omega)) (by first | exact Nat.le_of_ble_eq_true rfl | (simp at hb;first | omega | (dsimp only;omega) | (simp <;> omega)) | omega | (dsimp only;omega)) (fun h=>(by first | rfl | cases h))) (rfl)) rfl rfl rfl rfl (pre1 rfl) rfl rfl rfl ?_
  | refine stg 84 (fun hb=>HOp.val (v':=boolV (tellV (L.getD i []) o.pos side).ins) (hop_load_fp ty_4 rfl (by first | exact Nat.le_of_ble_eq_true rfl | (simp at hb;first | omega | (dsimp only;omega) | (simp <;> omega)) | omega | (dsimp only;omega)) (fun h=>(by first | rfl | cases h))) (rfl)) rfl rfl rfl rfl rfl ?_
  | refine sth 84 (fun hb=>HOp.val (v':=boolV (tellV (L.getD i []) o.pos side).ins) (hop_load_fp ty_4 rfl (by first | exact Nat.le_of_ble_eq_true rfl | (simp at hb;first | omega | (dsimp only;omega) | (simp <;> omega)) | omega | (dsimp only;omega)) (fun h=>(by first | rfl | cases h))) (rfl)) rfl rfl rfl rfl rfl ?_
  first
  | refine hq_p 87 (hstep_and _ _ rfl rfl rfl) rfl rfl rfl ?_
  | refine hq_p 87 (hstep_or _ _ rfl rfl rfl) rfl rfl rfl ?_
  | refine hq_p 87 (hstep_ite _ _ _ rfl rfl rfl) rfl rfl rfl ?_
  | refine hq_p 87 (hstep_pick _ _ _ _ rfl rfl rfl (fun _=>.refl _) (fun _=>.refl _)) rfl rfl rfl ?_
  first
  | refine hq_ 88 (hop_fa fd_93_2 rfl) rfl rfl pre0 rfl rfl ?_
  | refine hq_ 88 (hop_fa_fp fd_93_2 rfl (by first | exact Nat.le_of_ble_eq_true rfl | omega | (dsimp only;omega) | (simp <;> omega))) rfl rfl pre0 rfl rfl ?_
  first
  | refine hm_s1 (hol_storeW ty_4 rfl rfl rfl rfl) rfl rfl (pre1 rfl) (c':=c+14) rfl ?_
  | refine hm_s1 (hol_store ty_4 rfl rfl rfl rfl (by first | exact Nat.le_of_ble_eq_true rfl | omega | (dsimp only;omega) | (simp <;> omega)) (by first | exact Nat.le_of_ble_eq_true rfl | omega | (dsimp only;omega) | (simp <;> omega)) (by first | exact Nat.le_of_ble_eq_true rfl | omega | (dsimp only;omega) | (simp <;> omega))) rfl rfl (pre1 rfl) (c':=c+14) rfl ?_
  refine nu ?_
  refine h26 _<|hw_region<|sm ?_
  first
  | refine hq_ 90 (hop_addi rfl rfl rfl (by first | exact Nat.le_of_ble_eq_true rfl | omega | (dsimp only;omega) | (simp <;> omega)) (by first | exact Nat.le_of_ble_eq_true rfl | omega | (dsimp only;omega) | (simp <;> omega))) rfl rfl pre0 rfl rfl ?_
  | refine hq_ 90 (hop_add rfl rfl) rfl rfl pre0 rfl rfl ?_
  refine sa<|hseq_nil<|hq_block ?_
  exact hL5 ((i+1,⟨(tellV (L.getD i []) o.pos side).pos,o.gone||(tellV (L.getD i []) o.pos side).gone,o.ins||(tellV (L.getD i []) o.pos side).ins,o.rng,o.off⟩)) _ _ (by (try dsimp only);exact ⟨by omega,by rw [←hgo,goV_on hlt hgood e2]⟩) (by (try dsimp only);omega) (hsub_of rfl (Nat.le_refl _) tsa (hsr rfl (hsr rfl (HpSub.cons rfl (osub_plcT (by exact j5i rfl rfl rfl rfl rfl)) HpSub.nil))))
 have hr0:=hc0;(try simp only [hcs,Int.reduceToNat] at hc0)
 have hie:L.length≤i:=om
 refine hw_exit ?_
 refine hq_then_exit<|hq_then_exit<|hq_block_here<|h3 _<|srg fun N h27=>?_
 first
 | refine hq_ 91 (hol_load ty_93 rfl (by first | exact Nat.le_of_ble_eq_true rfl | omega | (dsimp only;omega) | (simp <;> omega)) (by first | exact Nat.le_of_ble_eq_true rfl | omega | (dsimp only;omega) | (simp <;> omega)) (fun h=>(by first | rfl | cases h))) rfl rfl (pre1 rfl) rfl rfl ?_
 | refine hq_ 91 (hop_load_fp ty_93 rfl (by first | exact Nat.le_of_ble_eq_true rfl | omega | (dsimp only;omega) | (simp <;> omega)) (fun h=>(by first | rfl | cases h))) rfl rfl pre0 rfl rfl ?_
 first
 | refine hm_s1 (hol_storeW ty_93 rfl rfl rfl rfl) rfl rfl (pre1 rfl) (c':=c+1) rfl ?_
 | refine hm_s1 (hol_store ty_93 rfl rfl rfl rfl (by first | exact Nat.le_of_ble_eq_true rfl | omega | (dsimp only;omega) | (simp <;> omega)) (by first | exact Nat.le_of_ble_eq_true rfl | omega | (dsimp only;omega) | (simp <;> omega)) (by first | exact Nat.le_of_ble_eq_true rfl | omega | (dsimp only;omega) | (simp <;> omega))) rfl rfl (pre1 rfl) (c':=c+1) rfl ?_
 refine sa<|snl h27<|hw_ret ?_
 refine hq_ret2 rfl (rvl_cell rfl rfl ty_93 rqc rfl rfl) (rval_tmp rfl) [] rfl pre0 ?_
 rw [←hgo,goV_end hie];exact fz_t2 (fz_plc (by exact j5i rfl rfl rfl rfl rfl)) (.imm _)
noncomputable instance (tl:TF) (f fr:Int) (n:Nat):Decidable (rowD tl f fr n):=Classical.propDecidable _
theorem rowD_step {tl:TF} {f fr:Int} {n:Nat} (h:rowD tl f fr n) (h1:(tl (f+n) 1).2=0) (h2:(tl (f+n) 1).1.gone=false) (h3:(tl (f+n) 1).1.pos=fr+n):rowD tl f fr (n+1):=fun i hi=>by
 by_cases e:i=n
 ·subst e;exact ⟨h1,h2,h3⟩
 ·exact h i (by omega)
theorem row26_h (L:List (List Rg)) (mir:List (Int×Int)) (hL:L.length≤100000) (hok:RtOk L mir) (sx:St) (fr:Int) (hx:0≤sx.f∧sx.f≤sx.t∧sx.t≤1073741824) (hfr:-4398046511104≤fr∧fr≤4398046511104):HPure Try.prog 47 [stV sx,rt24 L mir,intV fr] (boolV (decide (rowD (routeV L mir) sx.f fr (sx.t - sx.f).toNat))):=by
 refine hpure_of Try.func47 rfl kr _ _ _ rfl 41 rfl rfl (fun w F=>?_)
 refine srg fun N h1=>?_
 refine hm_1 3 (hop_box (id:=3) (sz:=10) rfl rfl rfl omx omx) rfl rfl pre0 rfl rfl (c':=1) rfl ?_
 refine hm_1 4 (hop_box (id:=4) (sz:=2) rfl rfl rfl omx omx) rfl rfl pre0 rfl rfl (c':=2) rfl ?_
 refine sa<|snl h1<|hw_seq fun Nh2 h2=>srg fun N h3=>?_
 first
 | refine hq_ 10 (hop_fa fd_26_1 rfl) rfl rfl pre0 rfl rfl ?_
 | refine hq_ 10 (hop_fa_fp fd_26_1 rfl (by first | exact Nat.le_of_ble_eq_true rfl | omega | (dsimp only;omega) | (simp <;> omega))) rfl rfl pre0 rfl rfl ?_
 first
 | refine hq_ 11 (hol_load ty_3 rfl (by first | exact Nat.le_of_ble_eq_true rfl | omega | (dsimp only;omega) | (simp <;> omega)) (by first | exact Nat.le_of_ble_eq_true rfl | omega | (dsimp only;omega) | (simp <;> omega)) (fun h=>(by first | rfl | cases h))) rfl rfl (pre1 rfl) rfl rfl ?_
 | refine hq_ 11 (hop_load_fp ty_3 rfl (by first | exact Nat.le_of_ble_eq_true rfl | omega | (dsimp only;omega) | (simp <;> omega)) (fun h=>(by first | rfl | cases h))) rfl rfl pre0 rfl rfl ?_
 refine sa<|snl h3<|hw_block ?_
 refine hw_loopc (α:=Nat) (fun x c=>⟨41,[(2,.v (intV fr)),(3,.v (.pt 3 0 0 0)),(4,.v (.pt 4 1 0 0)),(7,.v (intV (sx.f+x)))],[(3,⟨0,1,10,26,0,fun _=>stF sx⟩),(4,⟨1,1,2,47,0,fun _=>rtF24 L mir⟩)],c⟩) (fun x=>x≤(sx.t - sx.f).toNat∧rowD (routeV L mir) sx.f fr x) (fun x=>(sx.t - sx.f).toNat - x) (0) (by exact ⟨Nat.zero_le _,fun i h=>absurd h (Nat.not_lt_zero _)⟩) (hsub_of rfl (Nat.le_refl _) (tsr rfl (tsr rfl (tsr rfl (TmSub.cons rfl (sb_intV (show sx.f=sx.f+((0:Nat):Int) by simp)) TmSub.nil)))) hsa) (fun k c hx NhL4 hL4=>?_)
 (try dsimp only at hx hL4 ⊢)
 obtain ⟨hk,hrow⟩:=hx
 refine hw_seq fun Nh5 h5=>srg fun N h6=>sm ?_
 first
 | refine hq_ 13 (hop_fa fd_26_2 rfl) rfl rfl pre0 rfl rfl ?_
 | refine hq_ 13 (hop_fa_fp fd_26_2 rfl (by first | exact Nat.le_of_ble_eq_true rfl | omega | (dsimp only;omega) | (simp <;> omega))) rfl rfl pre0 rfl rfl ?_
 first
 | refine hq_ 14 (HOp.val (v':=intV sx.t) (hol_load ty_3 rfl (by first | exact Nat.le_of_ble_eq_true rfl | omega | (dsimp only;omega) | (simp <;> omega)) (by first | exact Nat.le_of_ble_eq_true rfl | omega | (dsimp only;omega) | (simp <;> omega)) (fun h=>(by first | rfl | cases h))) (rfl)) rfl rfl (pre1 rfl) rfl rfl ?_
 | refine hq_ 14 (HOp.val (v':=intV sx.t) (hop_load_fp ty_3 rfl (by first | exact Nat.le_of_ble_eq_true rfl | omega | (dsimp only;omega) | (simp <;> omega)) (fun h=>(by first | rfl | cases h))) (rfl)) rfl rfl pre0 rfl rfl ?_
 refine s0 hli ?_
 refine snl h6 ?_
 refine wc (fun hc0=>?_) (fun hc0=>?_)
 ·have hr0:=hc0;(try simp only [hcs,Int.reduceToNat] at hc0)
  refine hw_skip<|h5 _<|hw_seq fun Nh7 h7=>hw_block<|srg fun N h8=>?_
  first
  | refine hq_ 19 (hol_load ty_47 rfl (by first | exact Nat.le_of_ble_eq_true rfl | omega | (dsimp only;omega) | (simp <;> omega)) (by first | exact Nat.le_of_ble_eq_true rfl | omega | (dsimp only;omega) | (simp <;> omega)) (fun h=>(by first | rfl | cases h))) rfl rfl (pre1 rfl) rfl rfl ?_
  | refine hq_ 19 (hop_load_fp ty_47 rfl (by first | exact Nat.le_of_ble_eq_true rfl | omega | (dsimp only;omega) | (simp <;> omega)) (fun h=>(by first | rfl | cases h))) rfl rfl pre0 rfl rfl ?_
  refine sm ?_
  refine s0 (hop_call0 (xs:=[_,_,_]) (rtell_h L mir hL hok (sx.f+k) 1) ⟨rfl,⟨rfl,⟨rfl,trivial⟩⟩⟩ ⟨fe,⟨fe,⟨fe,trivial⟩⟩⟩) ?_
  refine sm ?_
  refine s0 hex ?_
  refine s0 hex ?_
  refine hm_1 8 (hop_alloc (id:=8) (sz:=5) zc_93 rfl rfl omx omx) rfl rfl pre0 rfl rfl (c':=c+1) rfl ?_
  first
  | refine hm_s1 (hol_storeW ty_93 rfl rfl rfl rfl) rfl rfl (pre1 rfl) (c':=c+2) rfl ?_
  | refine hm_s1 (hol_store ty_93 rfl rfl rfl rfl (by first | exact Nat.le_of_ble_eq_true rfl | omega | (dsimp only;omega) | (simp <;> omega)) (by first | exact Nat.le_of_ble_eq_true rfl | omega | (dsimp only;omega) | (simp <;> omega)) (by first | exact Nat.le_of_ble_eq_true rfl | omega | (dsimp only;omega) | (simp <;> omega))) rfl rfl (pre1 rfl) (c':=c+2) rfl ?_
  refine sa<|snl h8<|srg fun N h9=>sm ?_
  refine s0 (hop_not rfl) ?_
  refine sm ?_
  first
  | refine stg 26 (fun hb=>hop_fa fd_93_1 rfl) rfl rfl rfl rfl rfl ?_
  | refine sth 26 (fun hb=>hop_fa fd_93_1 rfl) rfl rfl rfl rfl rfl ?_
  | refine stg 26 (fun hb=>hop_fa_fp fd_93_1 rfl (by first | exact Nat.le_of_ble_eq_true rfl | (simp at hb;first | omega | (dsimp only;omega) | (simp <;> omega)) | omega | (dsimp only;omega))) rfl rfl rfl rfl rfl ?_
  | refine sth 26 (fun hb=>hop_fa_fp fd_93_1 rfl (by first | exact Nat.le_of_ble_eq_true rfl | (simp at hb;first | omega | (dsimp only;omega) | (simp <;> omega)) | omega | (dsimp only;omega))) rfl rfl rfl rfl rfl ?_
  first
  | refine hq_g 28 2 26 false _ (fun hb=>HOp.val (v':=boolV ((routeV L mir) (sx.f+k) 1).1.gone) (hol_load ty_4 rfl (by first | exact Nat.le_of_ble_eq_true rfl | (simp at hb;first | omega | (dsimp only;omega) | (simp <;> omega)) | omega | (dsimp only;omega)) (by first | exact Nat.le_of_ble_eq_true rfl | (simp at hb;first | omega | (dsimp only;omega) | (simp <;> omega)) | omega | (dsimp only;omega)) (fun h=>(by first | rfl | cases h))) (rfl)) rfl rfl rfl rfl (pre1 rfl) rfl rfl rfl ?_
  | refine hq_g2 28 2 26 _ _ false _ (fun hb=>HOp.val (v':=boolV ((routeV L mir) (sx.f+k) 1).1.gone) (hol_load ty_4 rfl (by first | exact Nat.le_of_ble_eq_true rfl | (simp at hb;first | omega | (dsimp only;omega) | (simp <;> omega)) | omega | (dsimp only;omega)) (by first | exact Nat.le_of_ble_eq_true rfl | (simp at hb;first | omega | (dsimp only;omega) | (simp <;> omega)) | omega | (dsimp only;omega)) (fun h=>(by first | rfl | cases h))) (rfl)) rfl rfl rfl rfl (pre1 rfl) rfl rfl rfl ?_
  | refine stg 26 (fun hb=>HOp.val (v':=boolV ((routeV L mir) (sx.f+k) 1).1.gone) (hop_load_fp ty_4 rfl (by first | exact Nat.le_of_ble_eq_true rfl | (simp at hb;first | omega | (dsimp only;omega) | (simp <;> omega)) | omega | (dsimp only;omega)) (fun h=>(by first | rfl | cases h))) (rfl)) rfl rfl rfl rfl rfl ?_
  | refine sth 26 (fun hb=>HOp.val (v':=boolV ((routeV L mir) (sx.f+k) 1).1.gone) (hop_load_fp ty_4 rfl (by first | exact Nat.le_of_ble_eq_true rfl | (simp at hb;first | omega | (dsimp only;omega) | (simp <;> omega)) | omega | (dsimp only;omega)) (fun h=>(by first | rfl | cases h))) (rfl)) rfl rfl rfl rfl rfl ?_
  first
  | refine hq_p 29 (hstep_and _ _ rfl rfl rfl) rfl rfl rfl ?_
  | refine hq_p 29 (hstep_or _ _ rfl rfl rfl) rfl rfl rfl ?_
  | refine hq_p 29 (hstep_ite _ _ _ rfl rfl rfl) rfl rfl rfl ?_
  | refine hq_p 29 (hstep_pick _ _ _ _ rfl rfl rfl (fun _=>.refl _) (fun _=>.refl _)) rfl rfl rfl ?_
  refine sm ?_
  first
  | refine stg 30 (fun hb=>hop_fa fd_93_0 rfl) rfl rfl rfl rfl rfl ?_
  | refine sth 30 (fun hb=>hop_fa fd_93_0 rfl) rfl rfl rfl rfl rfl ?_
  | refine stg 30 (fun hb=>hop_fa_fp fd_93_0 rfl (by first | exact Nat.le_of_ble_eq_true rfl | (simp at hb;first | omega | (dsimp only;omega) | (simp <;> omega)) | omega | (dsimp only;omega))) rfl rfl rfl rfl rfl ?_
  | refine sth 30 (fun hb=>hop_fa_fp fd_93_0 rfl (by first | exact Nat.le_of_ble_eq_true rfl | (simp at hb;first | omega | (dsimp only;omega) | (simp <;> omega)) | omega | (dsimp only;omega))) rfl rfl rfl rfl rfl ?_
  first
  | refine hq_g 32 6 30 false _ (fun hb=>HOp.val (v':=intV ((routeV L mir) (sx.f+k) 1).1.pos) (hol_load ty_3 rfl (by first | exact Nat.le_of_ble_eq_true rfl | (simp at hb;first | omega | (dsimp only;omega) | (simp <;> omega)) | omega | (dsimp only;omega)) (by first | exact Nat.le_of_ble_eq_true rfl | (simp at hb;first | omega | (dsimp only;omega) | (simp <;> omega)) | omega | (dsimp only;omega)) (fun h=>(by first | rfl | cases h))) (rfl)) rfl rfl rfl rfl (pre1 rfl) rfl rfl rfl ?_
  | refine hq_g2 32 6 30 _ _ false _ (fun hb=>HOp.val (v':=intV ((routeV L mir) (sx.f+k) 1).1.pos) (hol_load ty_3 rfl (by first | exact Nat.le_of_ble_eq_true rfl | (simp at hb;first | omega | (dsimp only;omega) | (simp <;> omega)) | omega | (dsimp only;omega)) (by first | exact Nat.le_of_ble_eq_true rfl | (simp at hb;first | omega | (dsimp only;omega) | (simp <;> omega)) | omega | (dsimp only;omega)) (fun h=>(by first | rfl | cases h))) (rfl)) rfl rfl rfl rfl (pre1 rfl) rfl rfl rfl ?_
  | refine stg 30 (fun hb=>HOp.val (v':=intV ((routeV L mir) (sx.f+k) 1).1.pos) (hop_load_fp ty_3 rfl (by first | exact Nat.le_of_ble_eq_true rfl | (simp at hb;first | omega | (dsimp only;omega) | (simp <;> omega)) | omega | (dsimp only;omega)) (fun h=>(by first | rfl | cases h))) (rfl)) rfl rfl rfl rfl rfl ?_
  | refine sth 30 (fun hb=>HOp.val (v':=intV ((routeV L mir) (sx.f+k) 1).1.pos) (hop_load_fp ty_3 rfl (by first | exact Nat.le_of_ble_eq_true rfl | (simp at hb;first | omega | (dsimp only;omega) | (simp <;> omega)) | omega | (dsimp only;omega)) (fun h=>(by first | rfl | cases h))) (rfl)) rfl rfl rfl rfl rfl ?_
  first
  | refine stg 30 (fun hb=>hop_move rfl) rfl rfl rfl rfl rfl ?_
  | refine sth 30 (fun hb=>hop_move rfl) rfl rfl rfl rfl rfl ?_
  first
  | refine stg 30 (fun hb=>hop_move rfl) rfl rfl rfl rfl rfl ?_
  | refine sth 30 (fun hb=>hop_move rfl) rfl rfl rfl rfl rfl ?_
  first
  | refine stg 30 (fun hb=>hop_addi rfl rfl rfl (by first | exact Nat.le_of_ble_eq_true rfl | (simp at hb;first | omega | (dsimp only;omega) | (simp <;> omega)) | omega | (dsimp only;omega)) (by first | exact Nat.le_of_ble_eq_true rfl | (simp at hb;first | omega | (dsimp only;omega) | (simp <;> omega)) | omega | (dsimp only;omega))) rfl rfl rfl rfl rfl ?_
  | refine sth 30 (fun hb=>hop_addi rfl rfl rfl (by first | exact Nat.le_of_ble_eq_true rfl | (simp at hb;first | omega | (dsimp only;omega) | (simp <;> omega)) | omega | (dsimp only;omega)) (by first | exact Nat.le_of_ble_eq_true rfl | (simp at hb;first | omega | (dsimp only;omega) | (simp <;> omega)) | omega | (dsimp only;omega))) rfl rfl rfl rfl rfl ?_
  | refine stg 30 (fun hb=>hop_add rfl rfl) rfl rfl rfl rfl rfl ?_
  | refine sth 30 (fun hb=>hop_add rfl rfl) rfl rfl rfl rfl rfl ?_
  first
  | refine stg 30 (fun hb=>hop_fa fd_26_1 rfl) rfl rfl rfl rfl rfl ?_
  | refine sth 30 (fun hb=>hop_fa fd_26_1 rfl) rfl rfl rfl rfl rfl ?_
  | refine stg 30 (fun hb=>hop_fa_fp fd_26_1 rfl (by first | exact Nat.le_of_ble_eq_true rfl | (simp at hb;first | omega | (dsimp only;omega) | (simp <;> omega)) | omega | (dsimp only;omega))) rfl rfl rfl rfl rfl ?_
  | refine sth 30 (fun hb=>hop_fa_fp fd_26_1 rfl (by first | exact Nat.le_of_ble_eq_true rfl | (simp at hb;first | omega | (dsimp only;omega) | (simp <;> omega)) | omega | (dsimp only;omega))) rfl rfl rfl rfl rfl ?_
  first
  | refine hq_g 37 6 30 false _ (fun hb=>HOp.val (v':=intV sx.f) (hol_load ty_3 rfl (by first | exact Nat.le_of_ble_eq_true rfl | (simp at hb;first | omega | (dsimp only;omega) | (simp <;> omega)) | omega | (dsimp only;omega)) (by first | exact Nat.le_of_ble_eq_true rfl | (simp at hb;first | omega | (dsimp only;omega) | (simp <;> omega)) | omega | (dsimp only;omega)) (fun h=>(by first | rfl | cases h))) (rfl)) rfl rfl rfl rfl (pre1 rfl) rfl rfl rfl ?_
  | refine hq_g2 37 6 30 _ _ false _ (fun hb=>HOp.val (v':=intV sx.f) (hol_load ty_3 rfl (by first | exact Nat.le_of_ble_eq_true rfl | (simp at hb;first | omega | (dsimp only;omega) | (simp <;> omega)) | omega | (dsimp only;omega)) (by first | exact Nat.le_of_ble_eq_true rfl | (simp at hb;first | omega | (dsimp only;omega) | (simp <;> omega)) | omega | (dsimp only;omega)) (fun h=>(by first | rfl | cases h))) (rfl)) rfl rfl rfl rfl (pre1 rfl) rfl rfl rfl ?_
  | refine stg 30 (fun hb=>HOp.val (v':=intV sx.f) (hop_load_fp ty_3 rfl (by first | exact Nat.le_of_ble_eq_true rfl | (simp at hb;first | omega | (dsimp only;omega) | (simp <;> omega)) | omega | (dsimp only;omega)) (fun h=>(by first | rfl | cases h))) (rfl)) rfl rfl rfl rfl rfl ?_
  | refine sth 30 (fun hb=>HOp.val (v':=intV sx.f) (hop_load_fp ty_3 rfl (by first | exact Nat.le_of_ble_eq_true rfl | (simp at hb;first | omega | (dsimp only;omega) | (simp <;> omega)) | omega | (dsimp only;omega)) (fun h=>(by first | rfl | cases h))) (rfl)) rfl rfl rfl rfl rfl ?_
  first
  | refine stg 30 (fun hb=>hop_subi rfl rfl rfl (by first | exact Nat.le_of_ble_eq_true rfl | (simp at hb;first | omega | (dsimp only;omega) | (simp <;> omega)) | omega | (dsimp only;omega)) (by first | exact Nat.le_of_ble_eq_true rfl | (simp at hb;first | omega | (dsimp only;omega) | (simp <;> omega)) | omega | (dsimp only;omega))) rfl rfl rfl rfl rfl ?_
  | refine sth 30 (fun hb=>hop_subi rfl rfl rfl (by first | exact Nat.le_of_ble_eq_true rfl | (simp at hb;first | omega | (dsimp only;omega) | (simp <;> omega)) | omega | (dsimp only;omega)) (by first | exact Nat.le_of_ble_eq_true rfl | (simp at hb;first | omega | (dsimp only;omega) | (simp <;> omega)) | omega | (dsimp only;omega))) rfl rfl rfl rfl rfl ?_
  | refine stg 30 (fun hb=>hop_sub rfl rfl) rfl rfl rfl rfl rfl ?_
  | refine sth 30 (fun hb=>hop_sub rfl rfl) rfl rfl rfl rfl rfl ?_
  first
  | refine stg 30 (fun hb=>hop_neq rfl rfl) rfl rfl rfl rfl rfl ?_
  | refine sth 30 (fun hb=>hop_neq rfl rfl) rfl rfl rfl rfl rfl ?_
  first
  | refine hq_p 40 (hstep_and _ _ rfl rfl rfl) rfl rfl rfl ?_
  | refine hq_p 40 (hstep_or _ _ rfl rfl rfl) rfl rfl rfl ?_
  | refine hq_p 40 (hstep_ite _ _ _ rfl rfl rfl) rfl rfl rfl ?_
  | refine hq_p 40 (hstep_pick _ _ _ _ rfl rfl rfl (fun _=>.refl _) (fun _=>.refl _)) rfl rfl rfl ?_
  refine nu ?_
  refine h9 _ ?_
  refine wc (fun hc1=>?_) (fun hc1=>?_)
  ·have hr1:=hc1;(try simp only [hcs,Int.reduceToNat] at hc1)
   have hn:¬ rowD (routeV L mir) sx.f fr (sx.t - sx.f).toNat:=(by intro h;obtain ⟨q1,q2,q3⟩:=h k om;have h9:=hr1;simp [q1,q2,q3] at h9;omega)
   refine srg fun N h10=>sa<|snl h10<|hw_ret<|hq_block_ret<|hq_then_ret<|hq_then_ret<|hq_block_ret<|hq_then_ret ?_
   refine hq_ret1 rfl (rval_tmp rfl) [] rfl pre0 ?_
   rw [decide_eq_false hn];exact .imm _
  have hr1:=hc1;(try simp only [hcs,Int.reduceToNat] at hc1)
  have hn:((routeV L mir) (sx.f+k) 1).2=0∧((routeV L mir) (sx.f+k) 1).1.gone=false∧((routeV L mir) (sx.f+k) 1).1.pos=fr+k:=(by have h9:=hr1;simp at h9;refine ⟨?_,?_,?_⟩ <;> first | omega | (simp;omega) | exact h9.1.1 | exact h9.1.2)
  refine hw_skip<|hq_block<|h7 _<|hw_region<|sm ?_
  first
  | refine hq_ 17 (hop_addi rfl rfl rfl (by first | exact Nat.le_of_ble_eq_true rfl | omega | (dsimp only;omega) | (simp <;> omega)) (by first | exact Nat.le_of_ble_eq_true rfl | omega | (dsimp only;omega) | (simp <;> omega))) rfl rfl pre0 rfl rfl ?_
  | refine hq_ 17 (hop_add rfl rfl) rfl rfl pre0 rfl rfl ?_
  refine sa<|hseq_nil ?_
  exact hL4 (k+1) _ _ (by (try dsimp only);exact ⟨by omega,rowD_step hrow hn.1 hn.2.1 hn.2.2⟩) (by (try dsimp only);omega) (hsub_of rfl (Nat.le_refl _) (tsr rfl (tsr rfl (tsr rfl (TmSub.cons rfl (sb_intV (show sx.f+k+1=sx.f+((k+1:Nat):Int) by omega)) TmSub.nil)))) hsa)
 have hr0:=hc0;(try simp only [hcs,Int.reduceToNat] at hc0)
 have hke:k=(sx.t - sx.f).toNat:=om;subst hke
 refine hw_exit ?_
 refine hq_then_exit<|hq_then_exit<|hq_block_here<|h2 _<|srg fun N h11=>sa<|snl h11<|hw_ret ?_
 refine hq_ret1 rfl (rval_tmp rfl) [] rfl pre0 ?_
 rw [decide_eq_true hrow];exact .imm _
theorem thr26_h (L:List (List Rg)) (mir:List (Int×Int)) (hL:L.length≤100000) (hok:RtOk L mir) (sx:St) (l1:sx.sl.length≤20000) (l2:sx.sets.length≤20000):HPure Try.prog 23 [stV sx,rt24 L mir] (optV (byV (routeV L mir) sx)):=by
 have htl:TlOk (routeV L mir):=tlok_route hok
 refine hpure_of Try.func23 rfl kr _ _ _ rfl 151 rfl rfl (fun w F=>?_)
 refine srg fun N h1=>?_
 refine hm_1 2 (hop_box (id:=2) (sz:=10) rfl rfl rfl omx omx) rfl rfl pre0 rfl rfl (c':=1) rfl ?_
 refine hm_1 3 (hop_box (id:=3) (sz:=2) rfl rfl rfl omx omx) rfl rfl pre0 rfl rfl (c':=2) rfl ?_
 refine hm_1 4 (hop_alloc (id:=4) (sz:=10) zc_26 rfl rfl omx omx) rfl rfl pre0 rfl rfl (c':=3) rfl ?_
 refine sa<|snl h1<|srg fun N h2=>?_
 refine s0 (hop_build (hs:=[]) st_26 rfl rfl trivial) ?_
 refine hm_1 6 (hop_alloc (id:=6) (sz:=10) zc_26 rfl rfl omx omx) rfl rfl pre0 rfl rfl (c':=4) rfl ?_
 first
 | refine hm_s1 (hol_storeW ty_26 rfl rfl rfl rfl) rfl rfl (pre1 rfl) (c':=5) rfl ?_
 | refine hm_s1 (hol_store ty_26 rfl rfl rfl rfl (by first | exact Nat.le_of_ble_eq_true rfl | omega | (dsimp only;omega) | (simp <;> omega)) (by first | exact Nat.le_of_ble_eq_true rfl | omega | (dsimp only;omega) | (simp <;> omega)) (by first | exact Nat.le_of_ble_eq_true rfl | omega | (dsimp only;omega) | (simp <;> omega))) rfl rfl (pre1 rfl) (c':=5) rfl ?_
 refine snl h2<|hw_seq fun Nh3 h3=>srg fun N h4=>?_
 first
 | refine hq_ 17 (hol_load ty_26 rfl (by first | exact Nat.le_of_ble_eq_true rfl | omega | (dsimp only;omega) | (simp <;> omega)) (by first | exact Nat.le_of_ble_eq_true rfl | omega | (dsimp only;omega) | (simp <;> omega)) (fun h=>(by first | rfl | cases h))) rfl rfl (pre1 rfl) rfl rfl ?_
 | refine hq_ 17 (hop_load_fp ty_26 rfl (by first | exact Nat.le_of_ble_eq_true rfl | omega | (dsimp only;omega) | (simp <;> omega)) (fun h=>(by first | rfl | cases h))) rfl rfl pre0 rfl rfl ?_
 refine s0 (hop_call0 (xs:=[_]) (shape25_h sx om om) ⟨rfl,trivial⟩ ⟨fe,trivial⟩) ?_
 refine s0 (hop_not rfl) ?_
 refine snl h4 ?_
 refine wc (fun hc0=>?_) (fun hc0=>?_)
 ·have hr0:=hc0;(try simp only [hcs,Int.reduceToNat] at hc0)
  have hs:¬ sx.shape=true:=(by simpa using hr0)
  refine srg fun N h5=>?_
  first
  | refine hq_ 20 (hol_load ty_26 rfl (by first | exact Nat.le_of_ble_eq_true rfl | omega | (dsimp only;omega) | (simp <;> omega)) (by first | exact Nat.le_of_ble_eq_true rfl | omega | (dsimp only;omega) | (simp <;> omega)) (fun h=>(by first | rfl | cases h))) rfl rfl (pre1 rfl) rfl rfl ?_
  | refine hq_ 20 (hop_load_fp ty_26 rfl (by first | exact Nat.le_of_ble_eq_true rfl | omega | (dsimp only;omega) | (simp <;> omega)) (fun h=>(by first | rfl | cases h))) rfl rfl pre0 rfl rfl ?_
  first
  | refine hm_s1 (hol_storeW ty_26 rfl rfl rfl rfl) rfl rfl (pre1 rfl) (c':=6) rfl ?_
  | refine hm_s1 (hol_store ty_26 rfl rfl rfl rfl (by first | exact Nat.le_of_ble_eq_true rfl | omega | (dsimp only;omega) | (simp <;> omega)) (by first | exact Nat.le_of_ble_eq_true rfl | omega | (dsimp only;omega) | (simp <;> omega)) (by first | exact Nat.le_of_ble_eq_true rfl | omega | (dsimp only;omega) | (simp <;> omega))) rfl rfl (pre1 rfl) (c':=6) rfl ?_
  refine sa<|snl h5<|hw_ret<|hq_then_ret ?_
  refine hq_ret2 rfl (rvl_cell rfl rfl ty_26 rqc rfl rfl) (rval_tmp rfl) [] rfl pre0 ?_
  rw [byV_shape hs];exact fz_t2 (fz_agg10 fzc fzc fzc fzc fzc fzc fzc fzc fzc fzc) (.imm _)
 have hr0:=hc0;(try simp only [hcs,Int.reduceToNat] at hc0)
 have hs:sx.shape=true:=(by simpa using hr0);obtain ⟨q1,q2,q3,q4,q5⟩:=shape_in hs;have hba:=htl sx.f 1 om om;have hbb:=htl sx.t (-1) om om
 refine hw_skip<|h3 _<|srg fun N h6=>?_
 first
 | refine hq_ 22 (hol_load ty_47 rfl (by first | exact Nat.le_of_ble_eq_true rfl | omega | (dsimp only;omega) | (simp <;> omega)) (by first | exact Nat.le_of_ble_eq_true rfl | omega | (dsimp only;omega) | (simp <;> omega)) (fun h=>(by first | rfl | cases h))) rfl rfl (pre1 rfl) rfl rfl ?_
 | refine hq_ 22 (hop_load_fp ty_47 rfl (by first | exact Nat.le_of_ble_eq_true rfl | omega | (dsimp only;omega) | (simp <;> omega)) (fun h=>(by first | rfl | cases h))) rfl rfl pre0 rfl rfl ?_
 first
 | refine hq_ 23 (hop_fa fd_26_1 rfl) rfl rfl pre0 rfl rfl ?_
 | refine hq_ 23 (hop_fa_fp fd_26_1 rfl (by first | exact Nat.le_of_ble_eq_true rfl | omega | (dsimp only;omega) | (simp <;> omega))) rfl rfl pre0 rfl rfl ?_
 first
 | refine hq_ 24 (hol_load ty_3 rfl (by first | exact Nat.le_of_ble_eq_true rfl | omega | (dsimp only;omega) | (simp <;> omega)) (by first | exact Nat.le_of_ble_eq_true rfl | omega | (dsimp only;omega) | (simp <;> omega)) (fun h=>(by first | rfl | cases h))) rfl rfl (pre1 rfl) rfl rfl ?_
 | refine hq_ 24 (hop_load_fp ty_3 rfl (by first | exact Nat.le_of_ble_eq_true rfl | omega | (dsimp only;omega) | (simp <;> omega)) (fun h=>(by first | rfl | cases h))) rfl rfl pre0 rfl rfl ?_
 refine s0 (hop_call0 (xs:=[_,_,_]) (rtell_h L mir hL hok sx.f 1) ⟨rfl,⟨rfl,⟨rfl,trivial⟩⟩⟩ ⟨fe,⟨fe,⟨fe,trivial⟩⟩⟩) ?_
 refine sm ?_
 refine s0 hex ?_
 refine s0 hex ?_
 refine hm_1 7 (hop_alloc (id:=7) (sz:=5) zc_93 rfl rfl omx omx) rfl rfl pre0 rfl rfl (c':=6) rfl ?_
 first
 | refine hm_s1 (hol_storeW ty_93 rfl rfl rfl rfl) rfl rfl (pre1 rfl) (c':=7) rfl ?_
 | refine hm_s1 (hol_store ty_93 rfl rfl rfl rfl (by first | exact Nat.le_of_ble_eq_true rfl | omega | (dsimp only;omega) | (simp <;> omega)) (by first | exact Nat.le_of_ble_eq_true rfl | omega | (dsimp only;omega) | (simp <;> omega)) (by first | exact Nat.le_of_ble_eq_true rfl | omega | (dsimp only;omega) | (simp <;> omega))) rfl rfl (pre1 rfl) (c':=7) rfl ?_
 refine sa<|snl h6<|srg fun N h7=>?_
 first
 | refine hq_ 29 (hol_load ty_47 rfl (by first | exact Nat.le_of_ble_eq_true rfl | omega | (dsimp only;omega) | (simp <;> omega)) (by first | exact Nat.le_of_ble_eq_true rfl | omega | (dsimp only;omega) | (simp <;> omega)) (fun h=>(by first | rfl | cases h))) rfl rfl (pre1 rfl) rfl rfl ?_
 | refine hq_ 29 (hop_load_fp ty_47 rfl (by first | exact Nat.le_of_ble_eq_true rfl | omega | (dsimp only;omega) | (simp <;> omega)) (fun h=>(by first | rfl | cases h))) rfl rfl pre0 rfl rfl ?_
 first
 | refine hq_ 30 (hop_fa fd_26_2 rfl) rfl rfl pre0 rfl rfl ?_
 | refine hq_ 30 (hop_fa_fp fd_26_2 rfl (by first | exact Nat.le_of_ble_eq_true rfl | omega | (dsimp only;omega) | (simp <;> omega))) rfl rfl pre0 rfl rfl ?_
 first
 | refine hq_ 31 (hol_load ty_3 rfl (by first | exact Nat.le_of_ble_eq_true rfl | omega | (dsimp only;omega) | (simp <;> omega)) (by first | exact Nat.le_of_ble_eq_true rfl | omega | (dsimp only;omega) | (simp <;> omega)) (fun h=>(by first | rfl | cases h))) rfl rfl (pre1 rfl) rfl rfl ?_
 | refine hq_ 31 (hop_load_fp ty_3 rfl (by first | exact Nat.le_of_ble_eq_true rfl | omega | (dsimp only;omega) | (simp <;> omega)) (fun h=>(by first | rfl | cases h))) rfl rfl pre0 rfl rfl ?_
 refine s0 (hop_call0 (xs:=[_,_,_]) (rtell_h L mir hL hok sx.t (-1)) ⟨rfl,⟨rfl,⟨rfl,trivial⟩⟩⟩ ⟨fe,⟨fe,⟨fe,trivial⟩⟩⟩) ?_
 refine sm ?_
 refine s0 hex ?_
 refine s0 hex ?_
 refine hm_1 9 (hop_alloc (id:=9) (sz:=5) zc_93 rfl rfl omx omx) rfl rfl pre0 rfl rfl (c':=8) rfl ?_
 first
 | refine hm_s1 (hol_storeW ty_93 rfl rfl rfl rfl) rfl rfl (pre1 rfl) (c':=9) rfl ?_
 | refine hm_s1 (hol_store ty_93 rfl rfl rfl rfl (by first | exact Nat.le_of_ble_eq_true rfl | omega | (dsimp only;omega) | (simp <;> omega)) (by first | exact Nat.le_of_ble_eq_true rfl | omega | (dsimp only;omega) | (simp <;> omega)) (by first | exact Nat.le_of_ble_eq_true rfl | omega | (dsimp only;omega) | (simp <;> omega))) rfl rfl (pre1 rfl) (c':=9) rfl ?_
 refine sa<|snl h7<|hw_seq fun Nh8 h8=>srg fun N h9=>sm ?_
 refine s0 (hop_not rfl) ?_
 refine sm ?_
 first
 | refine stg 37 (fun hb=>hop_move rfl) rfl rfl rfl rfl rfl ?_
 | refine sth 37 (fun hb=>hop_move rfl) rfl rfl rfl rfl rfl ?_
 first
 | refine stg 37 (fun hb=>hop_not rfl) rfl rfl rfl rfl rfl ?_
 | refine sth 37 (fun hb=>hop_not rfl) rfl rfl rfl rfl rfl ?_
 first
 | refine hq_p 40 (hstep_and _ _ rfl rfl rfl) rfl rfl rfl ?_
 | refine hq_p 40 (hstep_or _ _ rfl rfl rfl) rfl rfl rfl ?_
 | refine hq_p 40 (hstep_ite _ _ _ rfl rfl rfl) rfl rfl rfl ?_
 | refine hq_p 40 (hstep_pick _ _ _ _ rfl rfl rfl (fun _=>.refl _) (fun _=>.refl _)) rfl rfl rfl ?_
 refine sm ?_
 first
 | refine stg 41 (fun hb=>hop_fa fd_93_2 rfl) rfl rfl rfl rfl rfl ?_
 | refine sth 41 (fun hb=>hop_fa fd_93_2 rfl) rfl rfl rfl rfl rfl ?_
 | refine stg 41 (fun hb=>hop_fa_fp fd_93_2 rfl (by first | exact Nat.le_of_ble_eq_true rfl | (simp at hb;first | omega | (dsimp only;omega) | (simp <;> omega)) | omega | (dsimp only;omega))) rfl rfl rfl rfl rfl ?_
 | refine sth 41 (fun hb=>hop_fa_fp fd_93_2 rfl (by first | exact Nat.le_of_ble_eq_true rfl | (simp at hb;first | omega | (dsimp only;omega) | (simp <;> omega)) | omega | (dsimp only;omega))) rfl rfl rfl rfl rfl ?_
 first
 | refine hq_g 43 6 41 false _ (fun hb=>HOp.val (v':=boolV ((routeV L mir) sx.f 1).1.ins) (hol_load ty_4 rfl (by first | exact Nat.le_of_ble_eq_true rfl | (simp at hb;first | omega | (dsimp only;omega) | (simp <;> omega)) | omega | (dsimp only;omega)) (by first | exact Nat.le_of_ble_eq_true rfl | (simp at hb;first | omega | (dsimp only;omega) | (simp <;> omega)) | omega | (dsimp only;omega)) (fun h=>(by first | rfl | cases h))) (rfl)) rfl rfl rfl rfl (pre1 rfl) rfl rfl rfl ?_
 | refine hq_g2 43 6 41 _ _ false _ (fun hb=>HOp.val (v':=boolV ((routeV L mir) sx.f 1).1.ins) (hol_load ty_4 rfl (by first | exact Nat.le_of_ble_eq_true rfl | (simp at hb;first | omega | (dsimp only;omega) | (simp <;> omega)) | omega | (dsimp only;omega)) (by first | exact Nat.le_of_ble_eq_true rfl | (simp at hb;first | omega | (dsimp only;omega) | (simp <;> omega)) | omega | (dsimp only;omega)) (fun h=>(by first | rfl | cases h))) (rfl)) rfl rfl rfl rfl (pre1 rfl) rfl rfl rfl ?_
 | refine stg 41 (fun hb=>HOp.val (v':=boolV ((routeV L mir) sx.f 1).1.ins) (hop_load_fp ty_4 rfl (by first | exact Nat.le_of_ble_eq_true rfl | (simp at hb;first | omega | (dsimp only;omega) | (simp <;> omega)) | omega | (dsimp only;omega)) (fun h=>(by first | rfl | cases h))) (rfl)) rfl rfl rfl rfl rfl ?_
 | refine sth 41 (fun hb=>HOp.val (v':=boolV ((routeV L mir) sx.f 1).1.ins) (hop_load_fp ty_4 rfl (by first | exact Nat.le_of_ble_eq_true rfl | (simp at hb;first | omega | (dsimp only;omega) | (simp <;> omega)) | omega | (dsimp only;omega)) (fun h=>(by first | rfl | cases h))) (rfl)) rfl rfl rfl rfl rfl ?_
 first
 | refine stg 41 (fun hb=>hop_move rfl) rfl rfl rfl rfl rfl ?_
 | refine sth 41 (fun hb=>hop_move rfl) rfl rfl rfl rfl rfl ?_
 first
 | refine stg 44 (fun hb=>hop_fa fd_93_2 rfl) rfl rfl rfl rfl rfl ?_
 | refine hq_g3 45 9 44 41 false true _ _ (fun hb hb2=>hop_fa fd_93_2 rfl) rfl rfl rfl rfl rfl pre0 rfl rfl rfl ?_
 | refine sth 44 (fun hb=>hop_fa fd_93_2 rfl) rfl rfl rfl rfl rfl ?_
 | refine stg 44 (fun hb=>hop_fa_fp fd_93_2 rfl (by first | exact Nat.le_of_ble_eq_true rfl | (simp at hb;first | omega | (dsimp only;omega) | (simp <;> omega)) | omega | (dsimp only;omega))) rfl rfl rfl rfl rfl ?_
 | refine hq_g3 45 9 44 41 false true _ _ (fun hb hb2=>hop_fa_fp fd_93_2 rfl (by first | exact Nat.le_of_ble_eq_true rfl | (simp at hb;omega) | (simp at hb2;omega) | (simp at hb hb2;first | omega | (dsimp only;omega) | (simp <;> omega)) | omega | (dsimp only;omega))) rfl rfl rfl rfl rfl pre0 rfl rfl rfl ?_
 | refine sth 44 (fun hb=>hop_fa_fp fd_93_2 rfl (by first | exact Nat.le_of_ble_eq_true rfl | (simp at hb;first | omega | (dsimp only;omega) | (simp <;> omega)) | omega | (dsimp only;omega))) rfl rfl rfl rfl rfl ?_
 first
 | refine hq_g 46 9 44 true _ (fun hb=>HOp.val (v':=boolV ((routeV L mir) sx.t (-1)).1.ins) (hol_load ty_4 rfl (by first | exact Nat.le_of_ble_eq_true rfl | (simp at hb;first | omega | (dsimp only;omega) | (simp <;> omega)) | omega | (dsimp only;omega)) (by first | exact Nat.le_of_ble_eq_true rfl | (simp at hb;first | omega | (dsimp only;omega) | (simp <;> omega)) | omega | (dsimp only;omega)) (fun h=>(by first | rfl | cases h))) (rfl)) rfl rfl rfl rfl (pre1 rfl) rfl rfl rfl ?_
 | refine hq_g3 46 9 44 41 false true _ _ (fun hb hb2=>HOp.val (v':=boolV ((routeV L mir) sx.t (-1)).1.ins) (hol_load ty_4 rfl (by first | exact Nat.le_of_ble_eq_true rfl | (simp at hb;omega) | (simp at hb2;omega) | (simp at hb hb2;first | omega | (dsimp only;omega) | (simp <;> omega)) | omega | (dsimp only;omega)) (by first | exact Nat.le_of_ble_eq_true rfl | (simp at hb;omega) | (simp at hb2;omega) | (simp at hb hb2;first | omega | (dsimp only;omega) | (simp <;> omega)) | omega | (dsimp only;omega)) (fun h=>(by first | rfl | cases h))) (rfl)) rfl rfl rfl rfl rfl (pre1 rfl) rfl rfl rfl ?_
 | refine hq_g2 46 9 44 _ _ true _ (fun hb=>HOp.val (v':=boolV ((routeV L mir) sx.t (-1)).1.ins) (hol_load ty_4 rfl (by first | exact Nat.le_of_ble_eq_true rfl | (simp at hb;first | omega | (dsimp only;omega) | (simp <;> omega)) | omega | (dsimp only;omega)) (by first | exact Nat.le_of_ble_eq_true rfl | (simp at hb;first | omega | (dsimp only;omega) | (simp <;> omega)) | omega | (dsimp only;omega)) (fun h=>(by first | rfl | cases h))) (rfl)) rfl rfl rfl rfl (pre1 rfl) rfl rfl rfl ?_
 | refine stg 44 (fun hb=>HOp.val (v':=boolV ((routeV L mir) sx.t (-1)).1.ins) (hop_load_fp ty_4 rfl (by first | exact Nat.le_of_ble_eq_true rfl | (simp at hb;first | omega | (dsimp only;omega) | (simp <;> omega)) | omega | (dsimp only;omega)) (fun h=>(by first | rfl | cases h))) (rfl)) rfl rfl rfl rfl rfl ?_
 | refine hq_g3 46 9 44 41 false true _ _ (fun hb hb2=>HOp.val (v':=boolV ((routeV L mir) sx.t (-1)).1.ins) (hop_load_fp ty_4 rfl (by first | exact Nat.le_of_ble_eq_true rfl | (simp at hb;omega) | (simp at hb2;omega) | (simp at hb hb2;first | omega | (dsimp only;omega) | (simp <;> omega)) | omega | (dsimp only;omega)) (fun h=>(by first | rfl | cases h))) (rfl)) rfl rfl rfl rfl rfl pre0 rfl rfl rfl ?_
 | refine sth 44 (fun hb=>HOp.val (v':=boolV ((routeV L mir) sx.t (-1)).1.ins) (hop_load_fp ty_4 rfl (by first | exact Nat.le_of_ble_eq_true rfl | (simp at hb;first | omega | (dsimp only;omega) | (simp <;> omega)) | omega | (dsimp only;omega)) (fun h=>(by first | rfl | cases h))) (rfl)) rfl rfl rfl rfl rfl ?_
 first
 | refine hq_pg 47 (hstep_andg (gi:=6) (j:=41) _ _ rfl rfl rfl rfl) rfl rfl rfl rfl ?_
 | refine hq_pg 47 (hstep_org (gi:=6) (j:=41) _ _ rfl rfl rfl rfl) rfl rfl rfl rfl ?_
 | refine hq_pg 47 (hstep_pickg (gi:=6) (j:=41) _ _ _ _ rfl rfl rfl rfl (fun _=>.refl _) (fun _=>.refl _)) rfl rfl rfl rfl ?_
 first
 | refine hq_p 48 (hstep_and _ _ rfl rfl rfl) rfl rfl rfl ?_
 | refine hq_p 48 (hstep_or _ _ rfl rfl rfl) rfl rfl rfl ?_
 | refine hq_p 48 (hstep_ite _ _ _ rfl rfl rfl) rfl rfl rfl ?_
 | refine hq_p 48 (hstep_pick _ _ _ _ rfl rfl rfl (fun _=>.refl _) (fun _=>.refl _)) rfl rfl rfl ?_
 refine nu ?_
 refine h9 _ ?_
 refine wc (fun hc1=>?_) (fun hc1=>?_)
 ·have hr1:=hc1;(try simp only [hcs,Int.reduceToNat] at hc1)
  have hg:gone2 (routeV L mir) sx:=(by unfold gone2;simpa using hr1)
  refine srg fun N h10=>?_
  first
  | refine hq_ 49 (hol_load ty_26 rfl (by first | exact Nat.le_of_ble_eq_true rfl | omega | (dsimp only;omega) | (simp <;> omega)) (by first | exact Nat.le_of_ble_eq_true rfl | omega | (dsimp only;omega) | (simp <;> omega)) (fun h=>(by first | rfl | cases h))) rfl rfl (pre1 rfl) rfl rfl ?_
  | refine hq_ 49 (hop_load_fp ty_26 rfl (by first | exact Nat.le_of_ble_eq_true rfl | omega | (dsimp only;omega) | (simp <;> omega)) (fun h=>(by first | rfl | cases h))) rfl rfl pre0 rfl rfl ?_
  first
  | refine hm_s1 (hol_storeW ty_26 rfl rfl rfl rfl) rfl rfl (pre1 rfl) (c':=10) rfl ?_
  | refine hm_s1 (hol_store ty_26 rfl rfl rfl rfl (by first | exact Nat.le_of_ble_eq_true rfl | omega | (dsimp only;omega) | (simp <;> omega)) (by first | exact Nat.le_of_ble_eq_true rfl | omega | (dsimp only;omega) | (simp <;> omega)) (by first | exact Nat.le_of_ble_eq_true rfl | omega | (dsimp only;omega) | (simp <;> omega))) rfl rfl (pre1 rfl) (c':=10) rfl ?_
  refine sa<|snl h10<|hw_ret<|hq_then_ret ?_
  refine hq_ret2 rfl (rvl_cell rfl rfl ty_26 rqc rfl rfl) (rval_tmp rfl) [] rfl pre0 ?_
  rw [byV_gone hg];exact fz_t2 (fz_agg10 fzc fzc fzc fzc fzc fzc fzc fzc fzc fzc) (.imm _)
 have hr1:=hc1;(try simp only [hcs,Int.reduceToNat] at hc1)
 have hg:¬ gone2 (routeV L mir) sx:=(by unfold gone2;simpa using hr1)
 refine hw_skip<|h8 _<|srg fun N h11=>?_
 first
 | refine hq_ 50 (hol_load ty_26 rfl (by first | exact Nat.le_of_ble_eq_true rfl | omega | (dsimp only;omega) | (simp <;> omega)) (by first | exact Nat.le_of_ble_eq_true rfl | omega | (dsimp only;omega) | (simp <;> omega)) (fun h=>(by first | rfl | cases h))) rfl rfl (pre1 rfl) rfl rfl ?_
 | refine hq_ 50 (hop_load_fp ty_26 rfl (by first | exact Nat.le_of_ble_eq_true rfl | omega | (dsimp only;omega) | (simp <;> omega)) (fun h=>(by first | rfl | cases h))) rfl rfl pre0 rfl rfl ?_
 refine hm_1 11 (hop_alloc (id:=11) (sz:=10) zc_26 rfl rfl omx omx) rfl rfl pre0 rfl rfl (c':=10) rfl ?_
 first
 | refine hm_s1 (hol_storeW ty_26 rfl rfl rfl rfl) rfl rfl (pre1 rfl) (c':=11) rfl ?_
 | refine hm_s1 (hol_store ty_26 rfl rfl rfl rfl (by first | exact Nat.le_of_ble_eq_true rfl | omega | (dsimp only;omega) | (simp <;> omega)) (by first | exact Nat.le_of_ble_eq_true rfl | omega | (dsimp only;omega) | (simp <;> omega)) (by first | exact Nat.le_of_ble_eq_true rfl | omega | (dsimp only;omega) | (simp <;> omega))) rfl rfl (pre1 rfl) (c':=11) rfl ?_
 refine snl h11<|srg fun N h12=>?_
 first
 | refine hq_ 51 (hop_fa fd_93_0 rfl) rfl rfl pre0 rfl rfl ?_
 | refine hq_ 51 (hop_fa_fp fd_93_0 rfl (by first | exact Nat.le_of_ble_eq_true rfl | omega | (dsimp only;omega) | (simp <;> omega))) rfl rfl pre0 rfl rfl ?_
 first
 | refine hq_ 52 (HOp.val (v':=intV ((routeV L mir) sx.f 1).1.pos) (hol_load ty_3 rfl (by first | exact Nat.le_of_ble_eq_true rfl | omega | (dsimp only;omega) | (simp <;> omega)) (by first | exact Nat.le_of_ble_eq_true rfl | omega | (dsimp only;omega) | (simp <;> omega)) (fun h=>(by first | rfl | cases h))) (rfl)) rfl rfl (pre1 rfl) rfl rfl ?_
 | refine hq_ 52 (HOp.val (v':=intV ((routeV L mir) sx.f 1).1.pos) (hop_load_fp ty_3 rfl (by first | exact Nat.le_of_ble_eq_true rfl | omega | (dsimp only;omega) | (simp <;> omega)) (fun h=>(by first | rfl | cases h))) (rfl)) rfl rfl pre0 rfl rfl ?_
 first
 | refine hq_ 53 (hop_fa fd_26_1 rfl) rfl rfl pre0 rfl rfl ?_
 | refine hq_ 53 (hop_fa_fp fd_26_1 rfl (by first | exact Nat.le_of_ble_eq_true rfl | omega | (dsimp only;omega) | (simp <;> omega))) rfl rfl pre0 rfl rfl ?_
 first
 | refine hm_s1 (hol_storeW ty_3 rfl rfl rfl rfl) rfl rfl (pre1 rfl) (c':=12) rfl ?_
 | refine hm_s1 (hol_store ty_3 rfl rfl rfl rfl (by first | exact Nat.le_of_ble_eq_true rfl | omega | (dsimp only;omega) | (simp <;> omega)) (by first | exact Nat.le_of_ble_eq_true rfl | omega | (dsimp only;omega) | (simp <;> omega)) (by first | exact Nat.le_of_ble_eq_true rfl | omega | (dsimp only;omega) | (simp <;> omega))) rfl rfl (pre1 rfl) (c':=12) rfl ?_
 refine snl h12<|srg fun N h13=>?_
 first
 | refine hq_ 54 (hop_fa fd_93_0 rfl) rfl rfl pre0 rfl rfl ?_
 | refine hq_ 54 (hop_fa_fp fd_93_0 rfl (by first | exact Nat.le_of_ble_eq_true rfl | omega | (dsimp only;omega) | (simp <;> omega))) rfl rfl pre0 rfl rfl ?_
 first
 | refine hq_ 55 (HOp.val (v':=intV ((routeV L mir) sx.f 1).1.pos) (hol_load ty_3 rfl (by first | exact Nat.le_of_ble_eq_true rfl | omega | (dsimp only;omega) | (simp <;> omega)) (by first | exact Nat.le_of_ble_eq_true rfl | omega | (dsimp only;omega) | (simp <;> omega)) (fun h=>(by first | rfl | cases h))) (rfl)) rfl rfl (pre1 rfl) rfl rfl ?_
 | refine hq_ 55 (HOp.val (v':=intV ((routeV L mir) sx.f 1).1.pos) (hop_load_fp ty_3 rfl (by first | exact Nat.le_of_ble_eq_true rfl | omega | (dsimp only;omega) | (simp <;> omega)) (fun h=>(by first | rfl | cases h))) (rfl)) rfl rfl pre0 rfl rfl ?_
 first
 | refine hq_ 56 (hop_fa fd_93_0 rfl) rfl rfl pre0 rfl rfl ?_
 | refine hq_ 56 (hop_fa_fp fd_93_0 rfl (by first | exact Nat.le_of_ble_eq_true rfl | omega | (dsimp only;omega) | (simp <;> omega))) rfl rfl pre0 rfl rfl ?_
 first
 | refine hq_ 57 (HOp.val (v':=intV ((routeV L mir) sx.t (-1)).1.pos) (hol_load ty_3 rfl (by first | exact Nat.le_of_ble_eq_true rfl | omega | (dsimp only;omega) | (simp <;> omega)) (by first | exact Nat.le_of_ble_eq_true rfl | omega | (dsimp only;omega) | (simp <;> omega)) (fun h=>(by first | rfl | cases h))) (rfl)) rfl rfl (pre1 rfl) rfl rfl ?_
 | refine hq_ 57 (HOp.val (v':=intV ((routeV L mir) sx.t (-1)).1.pos) (hop_load_fp ty_3 rfl (by first | exact Nat.le_of_ble_eq_true rfl | omega | (dsimp only;omega) | (simp <;> omega)) (fun h=>(by first | rfl | cases h))) (rfl)) rfl rfl pre0 rfl rfl ?_
 refine s0 (hop_max rfl rfl) ?_
 first
 | refine hq_ 59 (hop_fa fd_26_2 rfl) rfl rfl pre0 rfl rfl ?_
 | refine hq_ 59 (hop_fa_fp fd_26_2 rfl (by first | exact Nat.le_of_ble_eq_true rfl | omega | (dsimp only;omega) | (simp <;> omega))) rfl rfl pre0 rfl rfl ?_
 first
 | refine hm_s1 (hol_storeW ty_3 rfl rfl rfl rfl) rfl rfl (pre1 rfl) (c':=13) rfl ?_
 | refine hm_s1 (hol_store ty_3 rfl rfl rfl rfl (by first | exact Nat.le_of_ble_eq_true rfl | omega | (dsimp only;omega) | (simp <;> omega)) (by first | exact Nat.le_of_ble_eq_true rfl | omega | (dsimp only;omega) | (simp <;> omega)) (by first | exact Nat.le_of_ble_eq_true rfl | omega | (dsimp only;omega) | (simp <;> omega))) rfl rfl (pre1 rfl) (c':=13) rfl ?_
 refine snl h13<|hw_seq fun Nh14 h14=>srg fun N h15=>?_
 first
 | refine hq_ 60 (hop_fa fd_26_0 rfl) rfl rfl pre0 rfl rfl ?_
 | refine hq_ 60 (hop_fa_fp fd_26_0 rfl (by first | exact Nat.le_of_ble_eq_true rfl | omega | (dsimp only;omega) | (simp <;> omega))) rfl rfl pre0 rfl rfl ?_
 first
 | refine hq_ 61 (HOp.val (v':=intV sx.k) (hol_load ty_3 rfl (by first | exact Nat.le_of_ble_eq_true rfl | omega | (dsimp only;omega) | (simp <;> omega)) (by first | exact Nat.le_of_ble_eq_true rfl | omega | (dsimp only;omega) | (simp <;> omega)) (fun h=>(by first | rfl | cases h))) (rfl)) rfl rfl (pre1 rfl) rfl rfl ?_
 | refine hq_ 61 (HOp.val (v':=intV sx.k) (hop_load_fp ty_3 rfl (by first | exact Nat.le_of_ble_eq_true rfl | omega | (dsimp only;omega) | (simp <;> omega)) (fun h=>(by first | rfl | cases h))) (rfl)) rfl rfl pre0 rfl rfl ?_
 refine s0 hqi ?_
 refine snl h15 ?_
 refine wc (fun hc2=>?_) (fun hc2=>?_)
 ·have hr2:=hc2;(try simp only [hcs,Int.reduceToNat] at hc2)
  have k2:sx.k=2:=hc2;have hgap:sx.f≤sx.gf∧sx.gf≤sx.gt∧sx.gt≤sx.t:=gap_in hs k2;have hbc:=htl sx.gf (-1) om om;have hbd:=htl sx.gt 1 om om
  refine srg fun N h16=>?_
  first
  | refine hq_ 64 (hol_load ty_47 rfl (by first | exact Nat.le_of_ble_eq_true rfl | omega | (dsimp only;omega) | (simp <;> omega)) (by first | exact Nat.le_of_ble_eq_true rfl | omega | (dsimp only;omega) | (simp <;> omega)) (fun h=>(by first | rfl | cases h))) rfl rfl (pre1 rfl) rfl rfl ?_
  | refine hq_ 64 (hop_load_fp ty_47 rfl (by first | exact Nat.le_of_ble_eq_true rfl | omega | (dsimp only;omega) | (simp <;> omega)) (fun h=>(by first | rfl | cases h))) rfl rfl pre0 rfl rfl ?_
  first
  | refine hq_ 65 (hop_fa fd_26_3 rfl) rfl rfl pre0 rfl rfl ?_
  | refine hq_ 65 (hop_fa_fp fd_26_3 rfl (by first | exact Nat.le_of_ble_eq_true rfl | omega | (dsimp only;omega) | (simp <;> omega))) rfl rfl pre0 rfl rfl ?_
  first
  | refine hq_ 66 (hol_load ty_3 rfl (by first | exact Nat.le_of_ble_eq_true rfl | omega | (dsimp only;omega) | (simp <;> omega)) (by first | exact Nat.le_of_ble_eq_true rfl | omega | (dsimp only;omega) | (simp <;> omega)) (fun h=>(by first | rfl | cases h))) rfl rfl (pre1 rfl) rfl rfl ?_
  | refine hq_ 66 (hop_load_fp ty_3 rfl (by first | exact Nat.le_of_ble_eq_true rfl | omega | (dsimp only;omega) | (simp <;> omega)) (fun h=>(by first | rfl | cases h))) rfl rfl pre0 rfl rfl ?_
  refine s0 (hop_call0 (xs:=[_,_,_]) (rtell_h L mir hL hok sx.gf (-1)) ⟨rfl,⟨rfl,⟨rfl,trivial⟩⟩⟩ ⟨fe,⟨fe,⟨fe,trivial⟩⟩⟩) ?_
  refine sm ?_
  refine s0 hex ?_
  refine s0 hex ?_
  refine hm_1 12 (hop_alloc (id:=12) (sz:=5) zc_93 rfl rfl omx omx) rfl rfl pre0 rfl rfl (c':=14) rfl ?_
  first
  | refine hm_s1 (hol_storeW ty_93 rfl rfl rfl rfl) rfl rfl (pre1 rfl) (c':=15) rfl ?_
  | refine hm_s1 (hol_store ty_93 rfl rfl rfl rfl (by first | exact Nat.le_of_ble_eq_true rfl | omega | (dsimp only;omega) | (simp <;> omega)) (by first | exact Nat.le_of_ble_eq_true rfl | omega | (dsimp only;omega) | (simp <;> omega)) (by first | exact Nat.le_of_ble_eq_true rfl | omega | (dsimp only;omega) | (simp <;> omega))) rfl rfl (pre1 rfl) (c':=15) rfl ?_
  refine sa<|snl h16<|srg fun N h17=>?_
  first
  | refine hq_ 71 (hol_load ty_47 rfl (by first | exact Nat.le_of_ble_eq_true rfl | omega | (dsimp only;omega) | (simp <;> omega)) (by first | exact Nat.le_of_ble_eq_true rfl | omega | (dsimp only;omega) | (simp <;> omega)) (fun h=>(by first | rfl | cases h))) rfl rfl (pre1 rfl) rfl rfl ?_
  | refine hq_ 71 (hop_load_fp ty_47 rfl (by first | exact Nat.le_of_ble_eq_true rfl | omega | (dsimp only;omega) | (simp <;> omega)) (fun h=>(by first | rfl | cases h))) rfl rfl pre0 rfl rfl ?_
  first
  | refine hq_ 72 (hop_fa fd_26_4 rfl) rfl rfl pre0 rfl rfl ?_
  | refine hq_ 72 (hop_fa_fp fd_26_4 rfl (by first | exact Nat.le_of_ble_eq_true rfl | omega | (dsimp only;omega) | (simp <;> omega))) rfl rfl pre0 rfl rfl ?_
  first
  | refine hq_ 73 (hol_load ty_3 rfl (by first | exact Nat.le_of_ble_eq_true rfl | omega | (dsimp only;omega) | (simp <;> omega)) (by first | exact Nat.le_of_ble_eq_true rfl | omega | (dsimp only;omega) | (simp <;> omega)) (fun h=>(by first | rfl | cases h))) rfl rfl (pre1 rfl) rfl rfl ?_
  | refine hq_ 73 (hop_load_fp ty_3 rfl (by first | exact Nat.le_of_ble_eq_true rfl | omega | (dsimp only;omega) | (simp <;> omega)) (fun h=>(by first | rfl | cases h))) rfl rfl pre0 rfl rfl ?_
  refine s0 (hop_call0 (xs:=[_,_,_]) (rtell_h L mir hL hok sx.gt 1) ⟨rfl,⟨rfl,⟨rfl,trivial⟩⟩⟩ ⟨fe,⟨fe,⟨fe,trivial⟩⟩⟩) ?_
  refine sm ?_
  refine s0 hex ?_
  refine s0 hex ?_
  refine hm_1 14 (hop_alloc (id:=14) (sz:=5) zc_93 rfl rfl omx omx) rfl rfl pre0 rfl rfl (c':=16) rfl ?_
  first
  | refine hm_s1 (hol_storeW ty_93 rfl rfl rfl rfl) rfl rfl (pre1 rfl) (c':=17) rfl ?_
  | refine hm_s1 (hol_store ty_93 rfl rfl rfl rfl (by first | exact Nat.le_of_ble_eq_true rfl | omega | (dsimp only;omega) | (simp <;> omega)) (by first | exact Nat.le_of_ble_eq_true rfl | omega | (dsimp only;omega) | (simp <;> omega)) (by first | exact Nat.le_of_ble_eq_true rfl | omega | (dsimp only;omega) | (simp <;> omega))) rfl rfl (pre1 rfl) (c':=17) rfl ?_
  refine sa<|snl h17<|srg fun N h18=>?_
  first
  | refine hq_ 77 (hop_fa fd_93_0 rfl) rfl rfl pre0 rfl rfl ?_
  | refine hq_ 77 (hop_fa_fp fd_93_0 rfl (by first | exact Nat.le_of_ble_eq_true rfl | omega | (dsimp only;omega) | (simp <;> omega))) rfl rfl pre0 rfl rfl ?_
  first
  | refine hq_ 78 (HOp.val (v':=intV ((routeV L mir) sx.gf (-1)).1.pos) (hol_load ty_3 rfl (by first | exact Nat.le_of_ble_eq_true rfl | omega | (dsimp only;omega) | (simp <;> omega)) (by first | exact Nat.le_of_ble_eq_true rfl | omega | (dsimp only;omega) | (simp <;> omega)) (fun h=>(by first | rfl | cases h))) (rfl)) rfl rfl (pre1 rfl) rfl rfl ?_
  | refine hq_ 78 (HOp.val (v':=intV ((routeV L mir) sx.gf (-1)).1.pos) (hop_load_fp ty_3 rfl (by first | exact Nat.le_of_ble_eq_true rfl | omega | (dsimp only;omega) | (simp <;> omega)) (fun h=>(by first | rfl | cases h))) (rfl)) rfl rfl pre0 rfl rfl ?_
  first
  | refine hq_ 79 (hop_fa fd_26_3 rfl) rfl rfl pre0 rfl rfl ?_
  | refine hq_ 79 (hop_fa_fp fd_26_3 rfl (by first | exact Nat.le_of_ble_eq_true rfl | omega | (dsimp only;omega) | (simp <;> omega))) rfl rfl pre0 rfl rfl ?_
  first
  | refine hm_s1 (hol_storeW ty_3 rfl rfl rfl rfl) rfl rfl (pre1 rfl) (c':=18) rfl ?_
  | refine hm_s1 (hol_store ty_3 rfl rfl rfl rfl (by first | exact Nat.le_of_ble_eq_true rfl | omega | (dsimp only;omega) | (simp <;> omega)) (by first | exact Nat.le_of_ble_eq_true rfl | omega | (dsimp only;omega) | (simp <;> omega)) (by first | exact Nat.le_of_ble_eq_true rfl | omega | (dsimp only;omega) | (simp <;> omega))) rfl rfl (pre1 rfl) (c':=18) rfl ?_
  refine snl h18<|srg fun N h19=>?_
  first
  | refine hq_ 80 (hop_fa fd_93_0 rfl) rfl rfl pre0 rfl rfl ?_
  | refine hq_ 80 (hop_fa_fp fd_93_0 rfl (by first | exact Nat.le_of_ble_eq_true rfl | omega | (dsimp only;omega) | (simp <;> omega))) rfl rfl pre0 rfl rfl ?_
  first
  | refine hq_ 81 (HOp.val (v':=intV ((routeV L mir) sx.gt 1).1.pos) (hol_load ty_3 rfl (by first | exact Nat.le_of_ble_eq_true rfl | omega | (dsimp only;omega) | (simp <;> omega)) (by first | exact Nat.le_of_ble_eq_true rfl | omega | (dsimp only;omega) | (simp <;> omega)) (fun h=>(by first | rfl | cases h))) (rfl)) rfl rfl (pre1 rfl) rfl rfl ?_
  | refine hq_ 81 (HOp.val (v':=intV ((routeV L mir) sx.gt 1).1.pos) (hop_load_fp ty_3 rfl (by first | exact Nat.le_of_ble_eq_true rfl | omega | (dsimp only;omega) | (simp <;> omega)) (fun h=>(by first | rfl | cases h))) (rfl)) rfl rfl pre0 rfl rfl ?_
  first
  | refine hq_ 82 (hop_fa fd_26_4 rfl) rfl rfl pre0 rfl rfl ?_
  | refine hq_ 82 (hop_fa_fp fd_26_4 rfl (by first | exact Nat.le_of_ble_eq_true rfl | omega | (dsimp only;omega) | (simp <;> omega))) rfl rfl pre0 rfl rfl ?_
  first
  | refine hm_s1 (hol_storeW ty_3 rfl rfl rfl rfl) rfl rfl (pre1 rfl) (c':=19) rfl ?_
  | refine hm_s1 (hol_store ty_3 rfl rfl rfl rfl (by first | exact Nat.le_of_ble_eq_true rfl | omega | (dsimp only;omega) | (simp <;> omega)) (by first | exact Nat.le_of_ble_eq_true rfl | omega | (dsimp only;omega) | (simp <;> omega)) (by first | exact Nat.le_of_ble_eq_true rfl | omega | (dsimp only;omega) | (simp <;> omega))) rfl rfl (pre1 rfl) (c':=19) rfl ?_
  refine snl h19<|srg fun N h20=>sm ?_
  refine s0 (hop_not rfl) ?_
  refine sm ?_
  first
  | refine stg 85 (fun hb=>hop_move rfl) rfl rfl rfl rfl rfl ?_
  | refine sth 85 (fun hb=>hop_move rfl) rfl rfl rfl rfl rfl ?_
  first
  | refine stg 85 (fun hb=>hop_not rfl) rfl rfl rfl rfl rfl ?_
  | refine sth 85 (fun hb=>hop_not rfl) rfl rfl rfl rfl rfl ?_
  first
  | refine hq_p 88 (hstep_and _ _ rfl rfl rfl) rfl rfl rfl ?_
  | refine hq_p 88 (hstep_or _ _ rfl rfl rfl) rfl rfl rfl ?_
  | refine hq_p 88 (hstep_ite _ _ _ rfl rfl rfl) rfl rfl rfl ?_
  | refine hq_p 88 (hstep_pick _ _ _ _ rfl rfl rfl (fun _=>.refl _) (fun _=>.refl _)) rfl rfl rfl ?_
  refine sm ?_
  first
  | refine stg 89 (fun hb=>hop_fa fd_26_3 rfl) rfl rfl rfl rfl rfl ?_
  | refine sth 89 (fun hb=>hop_fa fd_26_3 rfl) rfl rfl rfl rfl rfl ?_
  | refine stg 89 (fun hb=>hop_fa_fp fd_26_3 rfl (by first | exact Nat.le_of_ble_eq_true rfl | (simp at hb;first | omega | (dsimp only;omega) | (simp <;> omega)) | omega | (dsimp only;omega))) rfl rfl rfl rfl rfl ?_
  | refine sth 89 (fun hb=>hop_fa_fp fd_26_3 rfl (by first | exact Nat.le_of_ble_eq_true rfl | (simp at hb;first | omega | (dsimp only;omega) | (simp <;> omega)) | omega | (dsimp only;omega))) rfl rfl rfl rfl rfl ?_
  first
  | refine hq_g 91 6 89 false _ (fun hb=>HOp.val (v':=intV ((routeV L mir) sx.gf (-1)).1.pos) (hol_load ty_3 rfl (by first | exact Nat.le_of_ble_eq_true rfl | (simp at hb;first | omega | (dsimp only;omega) | (simp <;> omega)) | omega | (dsimp only;omega)) (by first | exact Nat.le_of_ble_eq_true rfl | (simp at hb;first | omega | (dsimp only;omega) | (simp <;> omega)) | omega | (dsimp only;omega)) (fun h=>(by first | rfl | cases h))) (rfl)) rfl rfl rfl rfl (pre1 rfl) rfl rfl rfl ?_
  | refine hq_g2 91 6 89 _ _ false _ (fun hb=>HOp.val (v':=intV ((routeV L mir) sx.gf (-1)).1.pos) (hol_load ty_3 rfl (by first | exact Nat.le_of_ble_eq_true rfl | (simp at hb;first | omega | (dsimp only;omega) | (simp <;> omega)) | omega | (dsimp only;omega)) (by first | exact Nat.le_of_ble_eq_true rfl | (simp at hb;first | omega | (dsimp only;omega) | (simp <;> omega)) | omega | (dsimp only;omega)) (fun h=>(by first | rfl | cases h))) (rfl)) rfl rfl rfl rfl (pre1 rfl) rfl rfl rfl ?_
  | refine stg 89 (fun hb=>HOp.val (v':=intV ((routeV L mir) sx.gf (-1)).1.pos) (hop_load_fp ty_3 rfl (by first | exact Nat.le_of_ble_eq_true rfl | (simp at hb;first | omega | (dsimp only;omega) | (simp <;> omega)) | omega | (dsimp only;omega)) (fun h=>(by first | rfl | cases h))) (rfl)) rfl rfl rfl rfl rfl ?_
  | refine sth 89 (fun hb=>HOp.val (v':=intV ((routeV L mir) sx.gf (-1)).1.pos) (hop_load_fp ty_3 rfl (by first | exact Nat.le_of_ble_eq_true rfl | (simp at hb;first | omega | (dsimp only;omega) | (simp <;> omega)) | omega | (dsimp only;omega)) (fun h=>(by first | rfl | cases h))) (rfl)) rfl rfl rfl rfl rfl ?_
  first
  | refine stg 89 (fun hb=>hop_fa fd_26_1 rfl) rfl rfl rfl rfl rfl ?_
  | refine sth 89 (fun hb=>hop_fa fd_26_1 rfl) rfl rfl rfl rfl rfl ?_
  | refine stg 89 (fun hb=>hop_fa_fp fd_26_1 rfl (by first | exact Nat.le_of_ble_eq_true rfl | (simp at hb;first | omega | (dsimp only;omega) | (simp <;> omega)) | omega | (dsimp only;omega))) rfl rfl rfl rfl rfl ?_
  | refine sth 89 (fun hb=>hop_fa_fp fd_26_1 rfl (by first | exact Nat.le_of_ble_eq_true rfl | (simp at hb;first | omega | (dsimp only;omega) | (simp <;> omega)) | omega | (dsimp only;omega))) rfl rfl rfl rfl rfl ?_
  first
  | refine hq_g 93 6 89 false _ (fun hb=>HOp.val (v':=intV ((routeV L mir) sx.f 1).1.pos) (hol_load ty_3 rfl (by first | exact Nat.le_of_ble_eq_true rfl | (simp at hb;first | omega | (dsimp only;omega) | (simp <;> omega)) | omega | (dsimp only;omega)) (by first | exact Nat.le_of_ble_eq_true rfl | (simp at hb;first | omega | (dsimp only;omega) | (simp <;> omega)) | omega | (dsimp only;omega)) (fun h=>(by first | rfl | cases h))) (rfl)) rfl rfl rfl rfl (pre1 rfl) rfl rfl rfl ?_
  | refine hq_g2 93 6 89 _ _ false _ (fun hb=>HOp.val (v':=intV ((routeV L mir) sx.f 1).1.pos) (hol_load ty_3 rfl (by first | exact Nat.le_of_ble_eq_true rfl | (simp at hb;first | omega | (dsimp only;omega) | (simp <;> omega)) | omega | (dsimp only;omega)) (by first | exact Nat.le_of_ble_eq_true rfl | (simp at hb;first | omega | (dsimp only;omega) | (simp <;> omega)) | omega | (dsimp only;omega)) (fun h=>(by first | rfl | cases h))) (rfl)) rfl rfl rfl rfl (pre1 rfl) rfl rfl rfl ?_
  | refine stg 89 (fun hb=>HOp.val (v':=intV ((routeV L mir) sx.f 1).1.pos) (hop_load_fp ty_3 rfl (by first | exact Nat.le_of_ble_eq_true rfl | (simp at hb;first | omega | (dsimp only;omega) | (simp <;> omega)) | omega | (dsimp only;omega)) (fun h=>(by first | rfl | cases h))) (rfl)) rfl rfl rfl rfl rfl ?_
  | refine sth 89 (fun hb=>HOp.val (v':=intV ((routeV L mir) sx.f 1).1.pos) (hop_load_fp ty_3 rfl (by first | exact Nat.le_of_ble_eq_true rfl | (simp at hb;first | omega | (dsimp only;omega) | (simp <;> omega)) | omega | (dsimp only;omega)) (fun h=>(by first | rfl | cases h))) (rfl)) rfl rfl rfl rfl rfl ?_
  first
  | refine stg 89 (fun hb=>hop_lss rfl rfl) rfl rfl rfl rfl rfl ?_
  | refine sth 89 (fun hb=>hop_lss rfl rfl) rfl rfl rfl rfl rfl ?_
  first
  | refine hq_p 95 (hstep_and _ _ rfl rfl rfl) rfl rfl rfl ?_
  | refine hq_p 95 (hstep_or _ _ rfl rfl rfl) rfl rfl rfl ?_
  | refine hq_p 95 (hstep_ite _ _ _ rfl rfl rfl) rfl rfl rfl ?_
  | refine hq_p 95 (hstep_pick _ _ _ _ rfl rfl rfl (fun _=>.refl _) (fun _=>.refl _)) rfl rfl rfl ?_
  refine sm ?_
  first
  | refine stg 96 (fun hb=>hop_fa fd_26_3 rfl) rfl rfl rfl rfl rfl ?_
  | refine sth 96 (fun hb=>hop_fa fd_26_3 rfl) rfl rfl rfl rfl rfl ?_
  | refine stg 96 (fun hb=>hop_fa_fp fd_26_3 rfl (by first | exact Nat.le_of_ble_eq_true rfl | (simp at hb;first | omega | (dsimp only;omega) | (simp <;> omega)) | omega | (dsimp only;omega))) rfl rfl rfl rfl rfl ?_
  | refine sth 96 (fun hb=>hop_fa_fp fd_26_3 rfl (by first | exact Nat.le_of_ble_eq_true rfl | (simp at hb;first | omega | (dsimp only;omega) | (simp <;> omega)) | omega | (dsimp only;omega))) rfl rfl rfl rfl rfl ?_
  first
  | refine hq_g 98 13 96 false _ (fun hb=>HOp.val (v':=intV ((routeV L mir) sx.gf (-1)).1.pos) (hol_load ty_3 rfl (by first | exact Nat.le_of_ble_eq_true rfl | (simp at hb;first | omega | (dsimp only;omega) | (simp <;> omega)) | omega | (dsimp only;omega)) (by first | exact Nat.le_of_ble_eq_true rfl | (simp at hb;first | omega | (dsimp only;omega) | (simp <;> omega)) | omega | (dsimp only;omega)) (fun h=>(by first | rfl | cases h))) (rfl)) rfl rfl rfl rfl (pre1 rfl) rfl rfl rfl ?_
  | refine hq_g2 98 13 96 _ _ false _ (fun hb=>HOp.val (v':=intV ((routeV L mir) sx.gf (-1)).1.pos) (hol_load ty_3 rfl (by first | exact Nat.le_of_ble_eq_true rfl | (simp at hb;first | omega | (dsimp only;omega) | (simp <;> omega)) | omega | (dsimp only;omega)) (by first | exact Nat.le_of_ble_eq_true rfl | (simp at hb;first | omega | (dsimp only;omega) | (simp <;> omega)) | omega | (dsimp only;omega)) (fun h=>(by first | rfl | cases h))) (rfl)) rfl rfl rfl rfl (pre1 rfl) rfl rfl rfl ?_
  | refine stg 96 (fun hb=>HOp.val (v':=intV ((routeV L mir) sx.gf (-1)).1.pos) (hop_load_fp ty_3 rfl (by first | exact Nat.le_of_ble_eq_true rfl | (simp at hb;first | omega | (dsimp only;omega) | (simp <;> omega)) | omega | (dsimp only;omega)) (fun h=>(by first | rfl | cases h))) (rfl)) rfl rfl rfl rfl rfl ?_
  | refine sth 96 (fun hb=>HOp.val (v':=intV ((routeV L mir) sx.gf (-1)).1.pos) (hop_load_fp ty_3 rfl (by first | exact Nat.le_of_ble_eq_true rfl | (simp at hb;first | omega | (dsimp only;omega) | (simp <;> omega)) | omega | (dsimp only;omega)) (fun h=>(by first | rfl | cases h))) (rfl)) rfl rfl rfl rfl rfl ?_
  first
  | refine stg 96 (fun hb=>hop_fa fd_26_4 rfl) rfl rfl rfl rfl rfl ?_
  | refine sth 96 (fun hb=>hop_fa fd_26_4 rfl) rfl rfl rfl rfl rfl ?_
  | refine stg 96 (fun hb=>hop_fa_fp fd_26_4 rfl (by first | exact Nat.le_of_ble_eq_true rfl | (simp at hb;first | omega | (dsimp only;omega) | (simp <;> omega)) | omega | (dsimp only;omega))) rfl rfl rfl rfl rfl ?_
  | refine sth 96 (fun hb=>hop_fa_fp fd_26_4 rfl (by first | exact Nat.le_of_ble_eq_true rfl | (simp at hb;first | omega | (dsimp only;omega) | (simp <;> omega)) | omega | (dsimp only;omega))) rfl rfl rfl rfl rfl ?_
  first
  | refine hq_g 100 13 96 false _ (fun hb=>HOp.val (v':=intV ((routeV L mir) sx.gt 1).1.pos) (hol_load ty_3 rfl (by first | exact Nat.le_of_ble_eq_true rfl | (simp at hb;first | omega | (dsimp only;omega) | (simp <;> omega)) | omega | (dsimp only;omega)) (by first | exact Nat.le_of_ble_eq_true rfl | (simp at hb;first | omega | (dsimp only;omega) | (simp <;> omega)) | omega | (dsimp only;omega)) (fun h=>(by first | rfl | cases h))) (rfl)) rfl rfl rfl rfl (pre1 rfl) rfl rfl rfl ?_
  | refine hq_g2 100 13 96 _ _ false _ (fun hb=>HOp.val (v':=intV ((routeV L mir) sx.gt 1).1.pos) (hol_load ty_3 rfl (by first | exact Nat.le_of_ble_eq_true rfl | (simp at hb;first | omega | (dsimp only;omega) | (simp <;> omega)) | omega | (dsimp only;omega)) (by first | exact Nat.le_of_ble_eq_true rfl | (simp at hb;first | omega | (dsimp only;omega) | (simp <;> omega)) | omega | (dsimp only;omega)) (fun h=>(by first | rfl | cases h))) (rfl)) rfl rfl rfl rfl (pre1 rfl) rfl rfl rfl ?_
  | refine stg 96 (fun hb=>HOp.val (v':=intV ((routeV L mir) sx.gt 1).1.pos) (hop_load_fp ty_3 rfl (by first | exact Nat.le_of_ble_eq_true rfl | (simp at hb;first | omega | (dsimp only;omega) | (simp <;> omega)) | omega | (dsimp only;omega)) (fun h=>(by first | rfl | cases h))) (rfl)) rfl rfl rfl rfl rfl ?_
  | refine sth 96 (fun hb=>HOp.val (v':=intV ((routeV L mir) sx.gt 1).1.pos) (hop_load_fp ty_3 rfl (by first | exact Nat.le_of_ble_eq_true rfl | (simp at hb;first | omega | (dsimp only;omega) | (simp <;> omega)) | omega | (dsimp only;omega)) (fun h=>(by first | rfl | cases h))) (rfl)) rfl rfl rfl rfl rfl ?_
  first
  | refine stg 96 (fun hb=>hop_gtr rfl rfl) rfl rfl rfl rfl rfl ?_
  | refine sth 96 (fun hb=>hop_gtr rfl rfl) rfl rfl rfl rfl rfl ?_
  first
  | refine hq_p 102 (hstep_and _ _ rfl rfl rfl) rfl rfl rfl ?_
  | refine hq_p 102 (hstep_or _ _ rfl rfl rfl) rfl rfl rfl ?_
  | refine hq_p 102 (hstep_ite _ _ _ rfl rfl rfl) rfl rfl rfl ?_
  | refine hq_p 102 (hstep_pick _ _ _ _ rfl rfl rfl (fun _=>.refl _) (fun _=>.refl _)) rfl rfl rfl ?_
  refine sm ?_
  first
  | refine stg 103 (fun hb=>hop_fa fd_26_4 rfl) rfl rfl rfl rfl rfl ?_
  | refine sth 103 (fun hb=>hop_fa fd_26_4 rfl) rfl rfl rfl rfl rfl ?_
  | refine stg 103 (fun hb=>hop_fa_fp fd_26_4 rfl (by first | exact Nat.le_of_ble_eq_true rfl | (simp at hb;first | omega | (dsimp only;omega) | (simp <;> omega)) | omega | (dsimp only;omega))) rfl rfl rfl rfl rfl ?_
  | refine sth 103 (fun hb=>hop_fa_fp fd_26_4 rfl (by first | exact Nat.le_of_ble_eq_true rfl | (simp at hb;first | omega | (dsimp only;omega) | (simp <;> omega)) | omega | (dsimp only;omega))) rfl rfl rfl rfl rfl ?_
  first
  | refine hq_g 105 20 103 false _ (fun hb=>HOp.val (v':=intV ((routeV L mir) sx.gt 1).1.pos) (hol_load ty_3 rfl (by first | exact Nat.le_of_ble_eq_true rfl | (simp at hb;first | omega | (dsimp only;omega) | (simp <;> omega)) | omega | (dsimp only;omega)) (by first | exact Nat.le_of_ble_eq_true rfl | (simp at hb;first | omega | (dsimp only;omega) | (simp <;> omega)) | omega | (dsimp only;omega)) (fun h=>(by first | rfl | cases h))) (rfl)) rfl rfl rfl rfl (pre1 rfl) rfl rfl rfl ?_
  | refine hq_g2 105 20 103 _ _ false _ (fun hb=>HOp.val (v':=intV ((routeV L mir) sx.gt 1).1.pos) (hol_load ty_3 rfl (by first | exact Nat.le_of_ble_eq_true rfl | (simp at hb;first | omega | (dsimp only;omega) | (simp <;> omega)) | omega | (dsimp only;omega)) (by first | exact Nat.le_of_ble_eq_true rfl | (simp at hb;first | omega | (dsimp only;omega) | (simp <;> omega)) | omega | (dsimp only;omega)) (fun h=>(by first | rfl | cases h))) (rfl)) rfl rfl rfl rfl (pre1 rfl) rfl rfl rfl ?_
  | refine stg 103 (fun hb=>HOp.val (v':=intV ((routeV L mir) sx.gt 1).1.pos) (hop_load_fp ty_3 rfl (by first | exact Nat.le_of_ble_eq_true rfl | (simp at hb;first | omega | (dsimp only;omega) | (simp <;> omega)) | omega | (dsimp only;omega)) (fun h=>(by first | rfl | cases h))) (rfl)) rfl rfl rfl rfl rfl ?_
  | refine sth 103 (fun hb=>HOp.val (v':=intV ((routeV L mir) sx.gt 1).1.pos) (hop_load_fp ty_3 rfl (by first | exact Nat.le_of_ble_eq_true rfl | (simp at hb;first | omega | (dsimp only;omega) | (simp <;> omega)) | omega | (dsimp only;omega)) (fun h=>(by first | rfl | cases h))) (rfl)) rfl rfl rfl rfl rfl ?_
  first
  | refine stg 103 (fun hb=>hop_fa fd_93_0 rfl) rfl rfl rfl rfl rfl ?_
  | refine sth 103 (fun hb=>hop_fa fd_93_0 rfl) rfl rfl rfl rfl rfl ?_
  | refine stg 103 (fun hb=>hop_fa_fp fd_93_0 rfl (by first | exact Nat.le_of_ble_eq_true rfl | (simp at hb;first | omega | (dsimp only;omega) | (simp <;> omega)) | omega | (dsimp only;omega))) rfl rfl rfl rfl rfl ?_
  | refine sth 103 (fun hb=>hop_fa_fp fd_93_0 rfl (by first | exact Nat.le_of_ble_eq_true rfl | (simp at hb;first | omega | (dsimp only;omega) | (simp <;> omega)) | omega | (dsimp only;omega))) rfl rfl rfl rfl rfl ?_
  first
  | refine hq_g 107 20 103 false _ (fun hb=>HOp.val (v':=intV ((routeV L mir) sx.t (-1)).1.pos) (hol_load ty_3 rfl (by first | exact Nat.le_of_ble_eq_true rfl | (simp at hb;first | omega | (dsimp only;omega) | (simp <;> omega)) | omega | (dsimp only;omega)) (by first | exact Nat.le_of_ble_eq_true rfl | (simp at hb;first | omega | (dsimp only;omega) | (simp <;> omega)) | omega | (dsimp only;omega)) (fun h=>(by first | rfl | cases h))) (rfl)) rfl rfl rfl rfl (pre1 rfl) rfl rfl rfl ?_
  | refine hq_g2 107 20 103 _ _ false _ (fun hb=>HOp.val (v':=intV ((routeV L mir) sx.t (-1)).1.pos) (hol_load ty_3 rfl (by first | exact Nat.le_of_ble_eq_true rfl | (simp at hb;first | omega | (dsimp only;omega) | (simp <;> omega)) | omega | (dsimp only;omega)) (by first | exact Nat.le_of_ble_eq_true rfl | (simp at hb;first | omega | (dsimp only;omega) | (simp <;> omega)) | omega | (dsimp only;omega)) (fun h=>(by first | rfl | cases h))) (rfl)) rfl rfl rfl rfl (pre1 rfl) rfl rfl rfl ?_
  | refine stg 103 (fun hb=>HOp.val (v':=intV ((routeV L mir) sx.t (-1)).1.pos) (hop_load_fp ty_3 rfl (by first | exact Nat.le_of_ble_eq_true rfl | (simp at hb;first | omega | (dsimp only;omega) | (simp <;> omega)) | omega | (dsimp only;omega)) (fun h=>(by first | rfl | cases h))) (rfl)) rfl rfl rfl rfl rfl ?_
  | refine sth 103 (fun hb=>HOp.val (v':=intV ((routeV L mir) sx.t (-1)).1.pos) (hop_load_fp ty_3 rfl (by first | exact Nat.le_of_ble_eq_true rfl | (simp at hb;first | omega | (dsimp only;omega) | (simp <;> omega)) | omega | (dsimp only;omega)) (fun h=>(by first | rfl | cases h))) (rfl)) rfl rfl rfl rfl rfl ?_
  first
  | refine stg 103 (fun hb=>hop_gtr rfl rfl) rfl rfl rfl rfl rfl ?_
  | refine sth 103 (fun hb=>hop_gtr rfl rfl) rfl rfl rfl rfl rfl ?_
  first
  | refine hq_p 109 (hstep_and _ _ rfl rfl rfl) rfl rfl rfl ?_
  | refine hq_p 109 (hstep_or _ _ rfl rfl rfl) rfl rfl rfl ?_
  | refine hq_p 109 (hstep_ite _ _ _ rfl rfl rfl) rfl rfl rfl ?_
  | refine hq_p 109 (hstep_pick _ _ _ _ rfl rfl rfl (fun _=>.refl _) (fun _=>.refl _)) rfl rfl rfl ?_
  refine nu ?_
  refine h20 _ ?_
  refine wc (fun hc3=>?_) (fun hc3=>?_)
  ·have hr3:=hc3;(try simp only [hcs,Int.reduceToNat] at hc3)
   have hn:¬ ((kV (routeV L mir) sx).1=true∧(kV (routeV L mir) sx).2.2=false∧(kV (routeV L mir) sx).2.1.shape=true):=(by rw [kV2 k2];rintro ⟨h1,h2,h3⟩;have h9:=hr3;simp at h1 h2 h9;omega)
   refine srg fun N h21=>?_
   first
   | refine hq_ 110 (hol_load ty_26 rfl (by first | exact Nat.le_of_ble_eq_true rfl | omega | (dsimp only;omega) | (simp <;> omega)) (by first | exact Nat.le_of_ble_eq_true rfl | omega | (dsimp only;omega) | (simp <;> omega)) (fun h=>(by first | rfl | cases h))) rfl rfl (pre1 rfl) rfl rfl ?_
   | refine hq_ 110 (hop_load_fp ty_26 rfl (by first | exact Nat.le_of_ble_eq_true rfl | omega | (dsimp only;omega) | (simp <;> omega)) (fun h=>(by first | rfl | cases h))) rfl rfl pre0 rfl rfl ?_
   first
   | refine hm_s1 (hol_storeW ty_26 rfl rfl rfl rfl) rfl rfl (pre1 rfl) (c':=20) rfl ?_
   | refine hm_s1 (hol_store ty_26 rfl rfl rfl rfl (by first | exact Nat.le_of_ble_eq_true rfl | omega | (dsimp only;omega) | (simp <;> omega)) (by first | exact Nat.le_of_ble_eq_true rfl | omega | (dsimp only;omega) | (simp <;> omega)) (by first | exact Nat.le_of_ble_eq_true rfl | omega | (dsimp only;omega) | (simp <;> omega))) rfl rfl (pre1 rfl) (c':=20) rfl ?_
   refine sa<|snl h21<|hw_ret<|hq_then_ret ?_
   refine hq_ret2 rfl (rvl_cell rfl rfl ty_26 rqc rfl rfl) (rval_tmp rfl) [] rfl pre0 ?_
   rw [byV_no hn];exact fz_t2 (fz_agg10 fzc fzc fzc fzc fzc fzc fzc fzc fzc fzc) (.imm _)
  have hr3:=hc3;(try simp only [hcs,Int.reduceToNat] at hc3)
  have hy:(kV (routeV L mir) sx).1=true∧(kV (routeV L mir) sx).2.2=false:=(by rw [kV2 k2];have h9:=hr3;simp at h9 ⊢;omega)
  refine hw_skip<|h14 _<|hw_seq fun Nh22 h22=>srg fun N h23=>?_
  first
  | refine hq_ 111 (hop_fa fd_26_0 rfl) rfl rfl pre0 rfl rfl ?_
  | refine hq_ 111 (hop_fa_fp fd_26_0 rfl (by first | exact Nat.le_of_ble_eq_true rfl | omega | (dsimp only;omega) | (simp <;> omega))) rfl rfl pre0 rfl rfl ?_
  first
  | refine hq_ 112 (HOp.val (v':=intV sx.k) (hol_load ty_3 rfl (by first | exact Nat.le_of_ble_eq_true rfl | omega | (dsimp only;omega) | (simp <;> omega)) (by first | exact Nat.le_of_ble_eq_true rfl | omega | (dsimp only;omega) | (simp <;> omega)) (fun h=>(by first | rfl | cases h))) (rfl)) rfl rfl (pre1 rfl) rfl rfl ?_
  | refine hq_ 112 (HOp.val (v':=intV sx.k) (hop_load_fp ty_3 rfl (by first | exact Nat.le_of_ble_eq_true rfl | omega | (dsimp only;omega) | (simp <;> omega)) (fun h=>(by first | rfl | cases h))) (rfl)) rfl rfl pre0 rfl rfl ?_
  refine s0 hqi ?_
  refine sm ?_
  first
  | refine stg 114 (fun hb=>hop_fa fd_26_0 rfl) rfl rfl rfl rfl rfl ?_
  | refine sth 114 (fun hb=>hop_fa fd_26_0 rfl) rfl rfl rfl rfl rfl ?_
  | refine stg 114 (fun hb=>hop_fa_fp fd_26_0 rfl (by first | exact Nat.le_of_ble_eq_true rfl | (simp at hb;first | omega | (dsimp only;omega) | (simp <;> omega)) | omega | (dsimp only;omega))) rfl rfl rfl rfl rfl ?_
  | refine sth 114 (fun hb=>hop_fa_fp fd_26_0 rfl (by first | exact Nat.le_of_ble_eq_true rfl | (simp at hb;first | omega | (dsimp only;omega) | (simp <;> omega)) | omega | (dsimp only;omega))) rfl rfl rfl rfl rfl ?_
  first
  | refine hq_g 116 3 114 false _ (fun hb=>HOp.val (v':=intV sx.k) (hol_load ty_3 rfl (by first | exact Nat.le_of_ble_eq_true rfl | (simp at hb;first | omega | (dsimp only;omega) | (simp <;> omega)) | omega | (dsimp only;omega)) (by first | exact Nat.le_of_ble_eq_true rfl | (simp at hb;first | omega | (dsimp only;omega) | (simp <;> omega)) | omega | (dsimp only;omega)) (fun h=>(by first | rfl | cases h))) (rfl)) rfl rfl rfl rfl (pre1 rfl) rfl rfl rfl ?_
  | refine hq_g2 116 3 114 _ _ false _ (fun hb=>HOp.val (v':=intV sx.k) (hol_load ty_3 rfl (by first | exact Nat.le_of_ble_eq_true rfl | (simp at hb;first | omega | (dsimp only;omega) | (simp <;> omega)) | omega | (dsimp only;omega)) (by first | exact Nat.le_of_ble_eq_true rfl | (simp at hb;first | omega | (dsimp only;omega) | (simp <;> omega)) | omega | (dsimp only;omega)) (fun h=>(by first | rfl | cases h))) (rfl)) rfl rfl rfl rfl (pre1 rfl) rfl rfl rfl ?_
  | refine stg 114 (fun hb=>HOp.val (v':=intV sx.k) (hop_load_fp ty_3 rfl (by first | exact Nat.le_of_ble_eq_true rfl | (simp at hb;first | omega | (dsimp only;omega) | (simp <;> omega)) | omega | (dsimp only;omega)) (fun h=>(by first | rfl | cases h))) (rfl)) rfl rfl rfl rfl rfl ?_
  | refine sth 114 (fun hb=>HOp.val (v':=intV sx.k) (hop_load_fp ty_3 rfl (by first | exact Nat.le_of_ble_eq_true rfl | (simp at hb;first | omega | (dsimp only;omega) | (simp <;> omega)) | omega | (dsimp only;omega)) (fun h=>(by first | rfl | cases h))) (rfl)) rfl rfl rfl rfl rfl ?_
  first
  | refine stg 114 (fun hb=>hop_eql rfl rfl) rfl rfl rfl rfl rfl ?_
  | refine sth 114 (fun hb=>hop_eql rfl rfl) rfl rfl rfl rfl rfl ?_
  first
  | refine hq_p 118 (hstep_and _ _ rfl rfl rfl) rfl rfl rfl ?_
  | refine hq_p 118 (hstep_or _ _ rfl rfl rfl) rfl rfl rfl ?_
  | refine hq_p 118 (hstep_ite _ _ _ rfl rfl rfl) rfl rfl rfl ?_
  | refine hq_p 118 (hstep_pick _ _ _ _ rfl rfl rfl (fun _=>.refl _) (fun _=>.refl _)) rfl rfl rfl ?_
  refine sm ?_
  first
  | refine stg 119 (fun hb=>hop_fa fd_93_0 rfl) rfl rfl rfl rfl rfl ?_
  | refine sth 119 (fun hb=>hop_fa fd_93_0 rfl) rfl rfl rfl rfl rfl ?_
  | refine stg 119 (fun hb=>hop_fa_fp fd_93_0 rfl (by first | exact Nat.le_of_ble_eq_true rfl | (simp at hb;first | omega | (dsimp only;omega) | (simp <;> omega)) | omega | (dsimp only;omega))) rfl rfl rfl rfl rfl ?_
  | refine sth 119 (fun hb=>hop_fa_fp fd_93_0 rfl (by first | exact Nat.le_of_ble_eq_true rfl | (simp at hb;first | omega | (dsimp only;omega) | (simp <;> omega)) | omega | (dsimp only;omega))) rfl rfl rfl rfl rfl ?_
  first
  | refine hq_g 121 8 119 true _ (fun hb=>HOp.val (v':=intV ((routeV L mir) sx.t (-1)).1.pos) (hol_load ty_3 rfl (by first | exact Nat.le_of_ble_eq_true rfl | (simp at hb;first | omega | (dsimp only;omega) | (simp <;> omega)) | omega | (dsimp only;omega)) (by first | exact Nat.le_of_ble_eq_true rfl | (simp at hb;first | omega | (dsimp only;omega) | (simp <;> omega)) | omega | (dsimp only;omega)) (fun h=>(by first | rfl | cases h))) (rfl)) rfl rfl rfl rfl (pre1 rfl) rfl rfl rfl ?_
  | refine hq_g2 121 8 119 _ _ true _ (fun hb=>HOp.val (v':=intV ((routeV L mir) sx.t (-1)).1.pos) (hol_load ty_3 rfl (by first | exact Nat.le_of_ble_eq_true rfl | (simp at hb;first | omega | (dsimp only;omega) | (simp <;> omega)) | omega | (dsimp only;omega)) (by first | exact Nat.le_of_ble_eq_true rfl | (simp at hb;first | omega | (dsimp only;omega) | (simp <;> omega)) | omega | (dsimp only;omega)) (fun h=>(by first | rfl | cases h))) (rfl)) rfl rfl rfl rfl (pre1 rfl) rfl rfl rfl ?_
  | refine stg 119 (fun hb=>HOp.val (v':=intV ((routeV L mir) sx.t (-1)).1.pos) (hop_load_fp ty_3 rfl (by first | exact Nat.le_of_ble_eq_true rfl | (simp at hb;first | omega | (dsimp only;omega) | (simp <;> omega)) | omega | (dsimp only;omega)) (fun h=>(by first | rfl | cases h))) (rfl)) rfl rfl rfl rfl rfl ?_
  | refine sth 119 (fun hb=>HOp.val (v':=intV ((routeV L mir) sx.t (-1)).1.pos) (hop_load_fp ty_3 rfl (by first | exact Nat.le_of_ble_eq_true rfl | (simp at hb;first | omega | (dsimp only;omega) | (simp <;> omega)) | omega | (dsimp only;omega)) (fun h=>(by first | rfl | cases h))) (rfl)) rfl rfl rfl rfl rfl ?_
  first
  | refine stg 119 (fun hb=>hop_fa fd_26_1 rfl) rfl rfl rfl rfl rfl ?_
  | refine sth 119 (fun hb=>hop_fa fd_26_1 rfl) rfl rfl rfl rfl rfl ?_
  | refine stg 119 (fun hb=>hop_fa_fp fd_26_1 rfl (by first | exact Nat.le_of_ble_eq_true rfl | (simp at hb;first | omega | (dsimp only;omega) | (simp <;> omega)) | omega | (dsimp only;omega))) rfl rfl rfl rfl rfl ?_
  | refine sth 119 (fun hb=>hop_fa_fp fd_26_1 rfl (by first | exact Nat.le_of_ble_eq_true rfl | (simp at hb;first | omega | (dsimp only;omega) | (simp <;> omega)) | omega | (dsimp only;omega))) rfl rfl rfl rfl rfl ?_
  first
  | refine hq_g 123 8 119 true _ (fun hb=>HOp.val (v':=intV ((routeV L mir) sx.f 1).1.pos) (hol_load ty_3 rfl (by first | exact Nat.le_of_ble_eq_true rfl | (simp at hb;first | omega | (dsimp only;omega) | (simp <;> omega)) | omega | (dsimp only;omega)) (by first | exact Nat.le_of_ble_eq_true rfl | (simp at hb;first | omega | (dsimp only;omega) | (simp <;> omega)) | omega | (dsimp only;omega)) (fun h=>(by first | rfl | cases h))) (rfl)) rfl rfl rfl rfl (pre1 rfl) rfl rfl rfl ?_
  | refine hq_g2 123 8 119 _ _ true _ (fun hb=>HOp.val (v':=intV ((routeV L mir) sx.f 1).1.pos) (hol_load ty_3 rfl (by first | exact Nat.le_of_ble_eq_true rfl | (simp at hb;first | omega | (dsimp only;omega) | (simp <;> omega)) | omega | (dsimp only;omega)) (by first | exact Nat.le_of_ble_eq_true rfl | (simp at hb;first | omega | (dsimp only;omega) | (simp <;> omega)) | omega | (dsimp only;omega)) (fun h=>(by first | rfl | cases h))) (rfl)) rfl rfl rfl rfl (pre1 rfl) rfl rfl rfl ?_
  | refine stg 119 (fun hb=>HOp.val (v':=intV ((routeV L mir) sx.f 1).1.pos) (hop_load_fp ty_3 rfl (by first | exact Nat.le_of_ble_eq_true rfl | (simp at hb;first | omega | (dsimp only;omega) | (simp <;> omega)) | omega | (dsimp only;omega)) (fun h=>(by first | rfl | cases h))) (rfl)) rfl rfl rfl rfl rfl ?_
  | refine sth 119 (fun hb=>HOp.val (v':=intV ((routeV L mir) sx.f 1).1.pos) (hop_load_fp ty_3 rfl (by first | exact Nat.le_of_ble_eq_true rfl | (simp at hb;first | omega | (dsimp only;omega) | (simp <;> omega)) | omega | (dsimp only;omega)) (fun h=>(by first | rfl | cases h))) (rfl)) rfl rfl rfl rfl rfl ?_
  first
  | refine stg 119 (fun hb=>hop_leq rfl rfl) rfl rfl rfl rfl rfl ?_
  | refine sth 119 (fun hb=>hop_leq rfl rfl) rfl rfl rfl rfl rfl ?_
  first
  | refine hq_p 125 (hstep_and _ _ rfl rfl rfl) rfl rfl rfl ?_
  | refine hq_p 125 (hstep_or _ _ rfl rfl rfl) rfl rfl rfl ?_
  | refine hq_p 125 (hstep_ite _ _ _ rfl rfl rfl) rfl rfl rfl ?_
  | refine hq_p 125 (hstep_pick _ _ _ _ rfl rfl rfl (fun _=>.refl _) (fun _=>.refl _)) rfl rfl rfl ?_
  refine nu ?_
  refine h23 _ ?_
  refine wc (fun hc4=>?_) (fun hc4=>?_)
  ·have hr4:=hc4;(try simp only [hcs,Int.reduceToNat] at hc4)
   exfalso;simp at hr4;omega
  have hr4:=hc4;(try simp only [hcs,Int.reduceToNat] at hc4)
  refine hw_skip<|h22 _<|hw_seq fun Nh24 h24=>srg fun N h25=>?_
  first
  | refine hq_ 127 (hop_fa fd_26_0 rfl) rfl rfl pre0 rfl rfl ?_
  | refine hq_ 127 (hop_fa_fp fd_26_0 rfl (by first | exact Nat.le_of_ble_eq_true rfl | omega | (dsimp only;omega) | (simp <;> omega))) rfl rfl pre0 rfl rfl ?_
  first
  | refine hq_ 128 (HOp.val (v':=intV sx.k) (hol_load ty_3 rfl (by first | exact Nat.le_of_ble_eq_true rfl | omega | (dsimp only;omega) | (simp <;> omega)) (by first | exact Nat.le_of_ble_eq_true rfl | omega | (dsimp only;omega) | (simp <;> omega)) (fun h=>(by first | rfl | cases h))) (rfl)) rfl rfl (pre1 rfl) rfl rfl ?_
  | refine hq_ 128 (HOp.val (v':=intV sx.k) (hop_load_fp ty_3 rfl (by first | exact Nat.le_of_ble_eq_true rfl | omega | (dsimp only;omega) | (simp <;> omega)) (fun h=>(by first | rfl | cases h))) (rfl)) rfl rfl pre0 rfl rfl ?_
  refine s0 hqi ?_
  refine snl h25 ?_
  refine wc (fun hc5=>?_) (fun hc5=>?_)
  ·have hr5:=hc5;(try simp only [hcs,Int.reduceToNat] at hc5)
   exfalso;omega
  have hr5:=hc5;(try simp only [hcs,Int.reduceToNat] at hc5)
  refine hw_skip<|h24 _<|hw_seq fun Nh26 h26=>hw_seq fun Nh27 h27=>?_
  have ho:(kV (routeV L mir) sx).2.1=(outV (routeV L mir) sx).mv (outV (routeV L mir) sx).f (outV (routeV L mir) sx).t ((routeV L mir) sx.gf (-1)).1.pos ((routeV L mir) sx.gt 1).1.pos:=(by rw [kV2 k2])
  refine hw_region ?_
  first
  | refine hq_ 146 (hol_load ty_26 rfl (by first | exact Nat.le_of_ble_eq_true rfl | omega | (dsimp only;omega) | (simp <;> omega)) (by first | exact Nat.le_of_ble_eq_true rfl | omega | (dsimp only;omega) | (simp <;> omega)) (fun h=>(by first | rfl | cases h))) rfl rfl (pre1 rfl) rfl rfl ?_
  | refine hq_ 146 (hop_load_fp ty_26 rfl (by first | exact Nat.le_of_ble_eq_true rfl | omega | (dsimp only;omega) | (simp <;> omega)) (fun h=>(by first | rfl | cases h))) rfl rfl pre0 rfl rfl ?_
  refine s0 (hop_call0 (xs:=[_]) (shape25_h ((outV (routeV L mir) sx).mv (outV (routeV L mir) sx).f (outV (routeV L mir) sx).t ((routeV L mir) sx.gf (-1)).1.pos ((routeV L mir) sx.gt 1).1.pos) (by show sx.sl.length≤_;omega) (by show sx.sets.length≤_;omega)) ⟨rfl,trivial⟩ ⟨(fz_agg10 fzc fzc fzc fzc fzc fzc fzc fzc (by exact fz_toks sx.sl) (by exact fz_mkss sx.sets)),trivial⟩) ?_
  refine s0 (hop_not rfl) ?_
  refine snl h27 ?_
  refine wc (fun hc7=>?_) (fun hc7=>?_)
  ·have hr7:=hc7;(try simp only [hcs,Int.reduceToNat] at hc7)
   refine srg fun N h28=>?_
   first
   | refine hq_ 149 (hol_load ty_26 rfl (by first | exact Nat.le_of_ble_eq_true rfl | omega | (dsimp only;omega) | (simp <;> omega)) (by first | exact Nat.le_of_ble_eq_true rfl | omega | (dsimp only;omega) | (simp <;> omega)) (fun h=>(by first | rfl | cases h))) rfl rfl (pre1 rfl) rfl rfl ?_
   | refine hq_ 149 (hop_load_fp ty_26 rfl (by first | exact Nat.le_of_ble_eq_true rfl | omega | (dsimp only;omega) | (simp <;> omega)) (fun h=>(by first | rfl | cases h))) rfl rfl pre0 rfl rfl ?_
   first
   | refine hm_s1 (hol_storeW ty_26 rfl rfl rfl rfl) rfl rfl (pre1 rfl) (c':=20) rfl ?_
   | refine hm_s1 (hol_store ty_26 rfl rfl rfl rfl (by first | exact Nat.le_of_ble_eq_true rfl | omega | (dsimp only;omega) | (simp <;> omega)) (by first | exact Nat.le_of_ble_eq_true rfl | omega | (dsimp only;omega) | (simp <;> omega)) (by first | exact Nat.le_of_ble_eq_true rfl | omega | (dsimp only;omega) | (simp <;> omega))) rfl rfl (pre1 rfl) (c':=20) rfl ?_
   refine sa<|snl h28<|hw_ret<|hq_then_ret ?_
   refine hq_ret2 rfl (rvl_cell rfl rfl ty_26 rqc rfl rfl) (rval_tmp rfl) [] rfl pre0 ?_
   rw [byV_no (fun h=>by rw [ho] at h;simp [h.2.2] at hr7)];exact fz_t2 (fz_agg10 fzc fzc fzc fzc fzc fzc fzc fzc fzc fzc) (.imm _)
  have hr7:=hc7;(try simp only [hcs,Int.reduceToNat] at hc7)
  refine hw_skip<|h26 _<|srg fun N h29=>?_
  first
  | refine hq_ 150 (hol_load ty_26 rfl (by first | exact Nat.le_of_ble_eq_true rfl | omega | (dsimp only;omega) | (simp <;> omega)) (by first | exact Nat.le_of_ble_eq_true rfl | omega | (dsimp only;omega) | (simp <;> omega)) (fun h=>(by first | rfl | cases h))) rfl rfl (pre1 rfl) rfl rfl ?_
  | refine hq_ 150 (hop_load_fp ty_26 rfl (by first | exact Nat.le_of_ble_eq_true rfl | omega | (dsimp only;omega) | (simp <;> omega)) (fun h=>(by first | rfl | cases h))) rfl rfl pre0 rfl rfl ?_
  first
  | refine hm_s1 (hol_storeW ty_26 rfl rfl rfl rfl) rfl rfl (pre1 rfl) (c':=20) rfl ?_
  | refine hm_s1 (hol_store ty_26 rfl rfl rfl rfl (by first | exact Nat.le_of_ble_eq_true rfl | omega | (dsimp only;omega) | (simp <;> omega)) (by first | exact Nat.le_of_ble_eq_true rfl | omega | (dsimp only;omega) | (simp <;> omega)) (by first | exact Nat.le_of_ble_eq_true rfl | omega | (dsimp only;omega) | (simp <;> omega))) rfl rfl (pre1 rfl) (c':=20) rfl ?_
  refine sa<|snl h29<|hw_ret ?_
  refine hq_ret2 rfl (rvl_cell rfl rfl ty_26 rqc rfl rfl) (rval_tmp rfl) [] rfl pre0 ?_
  rw [byV_yes hs hg ⟨hy.1,hy.2,by rw [ho];simpa using hr7⟩,ho];exact fz_t2 (fz_agg10 fzc fzc fzc fzc fzc fzc fzc fzc (by exact fz_toks sx.sl) (by exact fz_mkss sx.sets)) (.imm _)
 have hr2:=hc2;(try simp only [hcs,Int.reduceToNat] at hc2)
 refine hw_skip<|h14 _<|hw_seq fun Nh30 h30=>srg fun N h31=>?_
 first
 | refine hq_ 111 (hop_fa fd_26_0 rfl) rfl rfl pre0 rfl rfl ?_
 | refine hq_ 111 (hop_fa_fp fd_26_0 rfl (by first | exact Nat.le_of_ble_eq_true rfl | omega | (dsimp only;omega) | (simp <;> omega))) rfl rfl pre0 rfl rfl ?_
 first
 | refine hq_ 112 (HOp.val (v':=intV sx.k) (hol_load ty_3 rfl (by first | exact Nat.le_of_ble_eq_true rfl | omega | (dsimp only;omega) | (simp <;> omega)) (by first | exact Nat.le_of_ble_eq_true rfl | omega | (dsimp only;omega) | (simp <;> omega)) (fun h=>(by first | rfl | cases h))) (rfl)) rfl rfl (pre1 rfl) rfl rfl ?_
 | refine hq_ 112 (HOp.val (v':=intV sx.k) (hop_load_fp ty_3 rfl (by first | exact Nat.le_of_ble_eq_true rfl | omega | (dsimp only;omega) | (simp <;> omega)) (fun h=>(by first | rfl | cases h))) (rfl)) rfl rfl pre0 rfl rfl ?_
 refine s0 hqi ?_
 refine sm ?_
 first
 | refine stg 114 (fun hb=>hop_fa fd_26_0 rfl) rfl rfl rfl rfl rfl ?_
 | refine sth 114 (fun hb=>hop_fa fd_26_0 rfl) rfl rfl rfl rfl rfl ?_
 | refine stg 114 (fun hb=>hop_fa_fp fd_26_0 rfl (by first | exact Nat.le_of_ble_eq_true rfl | (simp at hb;first | omega | (dsimp only;omega) | (simp <;> omega)) | omega | (dsimp only;omega))) rfl rfl rfl rfl rfl ?_
 | refine sth 114 (fun hb=>hop_fa_fp fd_26_0 rfl (by first | exact Nat.le_of_ble_eq_true rfl | (simp at hb;first | omega | (dsimp only;omega) | (simp <;> omega)) | omega | (dsimp only;omega))) rfl rfl rfl rfl rfl ?_
 first
 | refine hq_g 116 3 114 false _ (fun hb=>HOp.val (v':=intV sx.k) (hol_load ty_3 rfl (by first | exact Nat.le_of_ble_eq_true rfl | (simp at hb;first | omega | (dsimp only;omega) | (simp <;> omega)) | omega | (dsimp only;omega)) (by first | exact Nat.le_of_ble_eq_true rfl | (simp at hb;first | omega | (dsimp only;omega) | (simp <;> omega)) | omega | (dsimp only;omega)) (fun h=>(by first | rfl | cases h))) (rfl)) rfl rfl rfl rfl (pre1 rfl) rfl rfl rfl ?_
 | refine hq_g2 116 3 114 _ _ false _ (fun hb=>HOp.val (v':=intV sx.k) (hol_load ty_3 rfl (by first | exact Nat.le_of_ble_eq_true rfl | (simp at hb;first | omega | (dsimp only;omega) | (simp <;> omega)) | omega | (dsimp only;omega)) (by first | exact Nat.le_of_ble_eq_true rfl | (simp at hb;first | omega | (dsimp only;omega) | (simp <;> omega)) | omega | (dsimp only;omega)) (fun h=>(by first | rfl | cases h))) (rfl)) rfl rfl rfl rfl (pre1 rfl) rfl rfl rfl ?_
 | refine stg 114 (fun hb=>HOp.val (v':=intV sx.k) (hop_load_fp ty_3 rfl (by first | exact Nat.le_of_ble_eq_true rfl | (simp at hb;first | omega | (dsimp only;omega) | (simp <;> omega)) | omega | (dsimp only;omega)) (fun h=>(by first | rfl | cases h))) (rfl)) rfl rfl rfl rfl rfl ?_
 | refine sth 114 (fun hb=>HOp.val (v':=intV sx.k) (hop_load_fp ty_3 rfl (by first | exact Nat.le_of_ble_eq_true rfl | (simp at hb;first | omega | (dsimp only;omega) | (simp <;> omega)) | omega | (dsimp only;omega)) (fun h=>(by first | rfl | cases h))) (rfl)) rfl rfl rfl rfl rfl ?_
 first
 | refine stg 114 (fun hb=>hop_eql rfl rfl) rfl rfl rfl rfl rfl ?_
 | refine sth 114 (fun hb=>hop_eql rfl rfl) rfl rfl rfl rfl rfl ?_
 first
 | refine hq_p 118 (hstep_and _ _ rfl rfl rfl) rfl rfl rfl ?_
 | refine hq_p 118 (hstep_or _ _ rfl rfl rfl) rfl rfl rfl ?_
 | refine hq_p 118 (hstep_ite _ _ _ rfl rfl rfl) rfl rfl rfl ?_
 | refine hq_p 118 (hstep_pick _ _ _ _ rfl rfl rfl (fun _=>.refl _) (fun _=>.refl _)) rfl rfl rfl ?_
 refine sm ?_
 first
 | refine stg 119 (fun hb=>hop_fa fd_93_0 rfl) rfl rfl rfl rfl rfl ?_
 | refine sth 119 (fun hb=>hop_fa fd_93_0 rfl) rfl rfl rfl rfl rfl ?_
 | refine stg 119 (fun hb=>hop_fa_fp fd_93_0 rfl (by first | exact Nat.le_of_ble_eq_true rfl | (simp at hb;first | omega | (dsimp only;omega) | (simp <;> omega)) | omega | (dsimp only;omega))) rfl rfl rfl rfl rfl ?_
 | refine sth 119 (fun hb=>hop_fa_fp fd_93_0 rfl (by first | exact Nat.le_of_ble_eq_true rfl | (simp at hb;first | omega | (dsimp only;omega) | (simp <;> omega)) | omega | (dsimp only;omega))) rfl rfl rfl rfl rfl ?_
 first
 | refine hq_g 121 8 119 true _ (fun hb=>HOp.val (v':=intV ((routeV L mir) sx.t (-1)).1.pos) (hol_load ty_3 rfl (by first | exact Nat.le_of_ble_eq_true rfl | (simp at hb;first | omega | (dsimp only;omega) | (simp <;> omega)) | omega | (dsimp only;omega)) (by first | exact Nat.le_of_ble_eq_true rfl | (simp at hb;first | omega | (dsimp only;omega) | (simp <;> omega)) | omega | (dsimp only;omega)) (fun h=>(by first | rfl | cases h))) (rfl)) rfl rfl rfl rfl (pre1 rfl) rfl rfl rfl ?_
 | refine hq_g2 121 8 119 _ _ true _ (fun hb=>HOp.val (v':=intV ((routeV L mir) sx.t (-1)).1.pos) (hol_load ty_3 rfl (by first | exact Nat.le_of_ble_eq_true rfl | (simp at hb;first | omega | (dsimp only;omega) | (simp <;> omega)) | omega | (dsimp only;omega)) (by first | exact Nat.le_of_ble_eq_true rfl | (simp at hb;first | omega | (dsimp only;omega) | (simp <;> omega)) | omega | (dsimp only;omega)) (fun h=>(by first | rfl | cases h))) (rfl)) rfl rfl rfl rfl (pre1 rfl) rfl rfl rfl ?_
 | refine stg 119 (fun hb=>HOp.val (v':=intV ((routeV L mir) sx.t (-1)).1.pos) (hop_load_fp ty_3 rfl (by first | exact Nat.le_of_ble_eq_true rfl | (simp at hb;first | omega | (dsimp only;omega) | (simp <;> omega)) | omega | (dsimp only;omega)) (fun h=>(by first | rfl | cases h))) (rfl)) rfl rfl rfl rfl rfl ?_
 | refine sth 119 (fun hb=>HOp.val (v':=intV ((routeV L mir) sx.t (-1)).1.pos) (hop_load_fp ty_3 rfl (by first | exact Nat.le_of_ble_eq_true rfl | (simp at hb;first | omega | (dsimp only;omega) | (simp <;> omega)) | omega | (dsimp only;omega)) (fun h=>(by first | rfl | cases h))) (rfl)) rfl rfl rfl rfl rfl ?_
 first
 | refine stg 119 (fun hb=>hop_fa fd_26_1 rfl) rfl rfl rfl rfl rfl ?_
 | refine sth 119 (fun hb=>hop_fa fd_26_1 rfl) rfl rfl rfl rfl rfl ?_
 | refine stg 119 (fun hb=>hop_fa_fp fd_26_1 rfl (by first | exact Nat.le_of_ble_eq_true rfl | (simp at hb;first | omega | (dsimp only;omega) | (simp <;> omega)) | omega | (dsimp only;omega))) rfl rfl rfl rfl rfl ?_
 | refine sth 119 (fun hb=>hop_fa_fp fd_26_1 rfl (by first | exact Nat.le_of_ble_eq_true rfl | (simp at hb;first | omega | (dsimp only;omega) | (simp <;> omega)) | omega | (dsimp only;omega))) rfl rfl rfl rfl rfl ?_
 first
 | refine hq_g 123 8 119 true _ (fun hb=>HOp.val (v':=intV ((routeV L mir) sx.f 1).1.pos) (hol_load ty_3 rfl (by first | exact Nat.le_of_ble_eq_true rfl | (simp at hb;first | omega | (dsimp only;omega) | (simp <;> omega)) | omega | (dsimp only;omega)) (by first | exact Nat.le_of_ble_eq_true rfl | (simp at hb;first | omega | (dsimp only;omega) | (simp <;> omega)) | omega | (dsimp only;omega)) (fun h=>(by first | rfl | cases h))) (rfl)) rfl rfl rfl rfl (pre1 rfl) rfl rfl rfl ?_
 | refine hq_g2 123 8 119 _ _ true _ (fun hb=>HOp.val (v':=intV ((routeV L mir) sx.f 1).1.pos) (hol_load ty_3 rfl (by first | exact Nat.le_of_ble_eq_true rfl | (simp at hb;first | omega | (dsimp only;omega) | (simp <;> omega)) | omega | (dsimp only;omega)) (by first | exact Nat.le_of_ble_eq_true rfl | (simp at hb;first | omega | (dsimp only;omega) | (simp <;> omega)) | omega | (dsimp only;omega)) (fun h=>(by first | rfl | cases h))) (rfl)) rfl rfl rfl rfl (pre1 rfl) rfl rfl rfl ?_
 | refine stg 119 (fun hb=>HOp.val (v':=intV ((routeV L mir) sx.f 1).1.pos) (hop_load_fp ty_3 rfl (by first | exact Nat.le_of_ble_eq_true rfl | (simp at hb;first | omega | (dsimp only;omega) | (simp <;> omega)) | omega | (dsimp only;omega)) (fun h=>(by first | rfl | cases h))) (rfl)) rfl rfl rfl rfl rfl ?_
 | refine sth 119 (fun hb=>HOp.val (v':=intV ((routeV L mir) sx.f 1).1.pos) (hop_load_fp ty_3 rfl (by first | exact Nat.le_of_ble_eq_true rfl | (simp at hb;first | omega | (dsimp only;omega) | (simp <;> omega)) | omega | (dsimp only;omega)) (fun h=>(by first | rfl | cases h))) (rfl)) rfl rfl rfl rfl rfl ?_
 first
 | refine stg 119 (fun hb=>hop_leq rfl rfl) rfl rfl rfl rfl rfl ?_
 | refine sth 119 (fun hb=>hop_leq rfl rfl) rfl rfl rfl rfl rfl ?_
 first
 | refine hq_p 125 (hstep_and _ _ rfl rfl rfl) rfl rfl rfl ?_
 | refine hq_p 125 (hstep_or _ _ rfl rfl rfl) rfl rfl rfl ?_
 | refine hq_p 125 (hstep_ite _ _ _ rfl rfl rfl) rfl rfl rfl ?_
 | refine hq_p 125 (hstep_pick _ _ _ _ rfl rfl rfl (fun _=>.refl _) (fun _=>.refl _)) rfl rfl rfl ?_
 refine nu ?_
 refine h31 _ ?_
 refine wc (fun hc4=>?_) (fun hc4=>?_)
 ·have hr4:=hc4;(try simp only [hcs,Int.reduceToNat] at hc4)
  have hn:¬ ((kV (routeV L mir) sx).1=true∧(kV (routeV L mir) sx).2.2=false∧(kV (routeV L mir) sx).2.1.shape=true):=(by have h9:=hr4;simp at h9;rw [kV3 h9.1];rintro ⟨h1,h2,h3⟩;simp at h1;omega)
  refine srg fun N h32=>?_
  first
  | refine hq_ 126 (hol_load ty_26 rfl (by first | exact Nat.le_of_ble_eq_true rfl | omega | (dsimp only;omega) | (simp <;> omega)) (by first | exact Nat.le_of_ble_eq_true rfl | omega | (dsimp only;omega) | (simp <;> omega)) (fun h=>(by first | rfl | cases h))) rfl rfl (pre1 rfl) rfl rfl ?_
  | refine hq_ 126 (hop_load_fp ty_26 rfl (by first | exact Nat.le_of_ble_eq_true rfl | omega | (dsimp only;omega) | (simp <;> omega)) (fun h=>(by first | rfl | cases h))) rfl rfl pre0 rfl rfl ?_
  first
  | refine hm_s1 (hol_storeW ty_26 rfl rfl rfl rfl) rfl rfl (pre1 rfl) (c':=14) rfl ?_
  | refine hm_s1 (hol_store ty_26 rfl rfl rfl rfl (by first | exact Nat.le_of_ble_eq_true rfl | omega | (dsimp only;omega) | (simp <;> omega)) (by first | exact Nat.le_of_ble_eq_true rfl | omega | (dsimp only;omega) | (simp <;> omega)) (by first | exact Nat.le_of_ble_eq_true rfl | omega | (dsimp only;omega) | (simp <;> omega))) rfl rfl (pre1 rfl) (c':=14) rfl ?_
  refine sa<|snl h32<|hw_ret<|hq_then_ret ?_
  refine hq_ret2 rfl (rvl_cell rfl rfl ty_26 rqc rfl rfl) (rval_tmp rfl) [] rfl pre0 ?_
  rw [byV_no hn];exact fz_t2 (fz_agg10 fzc fzc fzc fzc fzc fzc fzc fzc fzc fzc) (.imm _)
 have hr4:=hc4;(try simp only [hcs,Int.reduceToNat] at hc4)
 refine hw_skip<|h30 _<|hw_seq fun Nh33 h33=>srg fun N h34=>?_
 first
 | refine hq_ 127 (hop_fa fd_26_0 rfl) rfl rfl pre0 rfl rfl ?_
 | refine hq_ 127 (hop_fa_fp fd_26_0 rfl (by first | exact Nat.le_of_ble_eq_true rfl | omega | (dsimp only;omega) | (simp <;> omega))) rfl rfl pre0 rfl rfl ?_
 first
 | refine hq_ 128 (HOp.val (v':=intV sx.k) (hol_load ty_3 rfl (by first | exact Nat.le_of_ble_eq_true rfl | omega | (dsimp only;omega) | (simp <;> omega)) (by first | exact Nat.le_of_ble_eq_true rfl | omega | (dsimp only;omega) | (simp <;> omega)) (fun h=>(by first | rfl | cases h))) (rfl)) rfl rfl (pre1 rfl) rfl rfl ?_
 | refine hq_ 128 (HOp.val (v':=intV sx.k) (hop_load_fp ty_3 rfl (by first | exact Nat.le_of_ble_eq_true rfl | omega | (dsimp only;omega) | (simp <;> omega)) (fun h=>(by first | rfl | cases h))) (rfl)) rfl rfl pre0 rfl rfl ?_
 refine s0 hqi ?_
 refine snl h34 ?_
 refine wc (fun hc5=>?_) (fun hc5=>?_)
 ·have hr5:=hc5;(try simp only [hcs,Int.reduceToNat] at hc5)
  have k5:sx.k=5:=hc5
  refine srg fun N h35=>?_
  first
  | refine hq_ 130 (hop_fa fd_26_1 rfl) rfl rfl pre0 rfl rfl ?_
  | refine hq_ 130 (hop_fa_fp fd_26_1 rfl (by first | exact Nat.le_of_ble_eq_true rfl | omega | (dsimp only;omega) | (simp <;> omega))) rfl rfl pre0 rfl rfl ?_
  first
  | refine hq_ 131 (HOp.val (v':=intV ((routeV L mir) sx.f 1).1.pos) (hol_load ty_3 rfl (by first | exact Nat.le_of_ble_eq_true rfl | omega | (dsimp only;omega) | (simp <;> omega)) (by first | exact Nat.le_of_ble_eq_true rfl | omega | (dsimp only;omega) | (simp <;> omega)) (fun h=>(by first | rfl | cases h))) (rfl)) rfl rfl (pre1 rfl) rfl rfl ?_
  | refine hq_ 131 (HOp.val (v':=intV ((routeV L mir) sx.f 1).1.pos) (hop_load_fp ty_3 rfl (by first | exact Nat.le_of_ble_eq_true rfl | omega | (dsimp only;omega) | (simp <;> omega)) (fun h=>(by first | rfl | cases h))) (rfl)) rfl rfl pre0 rfl rfl ?_
  first
  | refine hq_ 132 (hop_fa fd_26_2 rfl) rfl rfl pre0 rfl rfl ?_
  | refine hq_ 132 (hop_fa_fp fd_26_2 rfl (by first | exact Nat.le_of_ble_eq_true rfl | omega | (dsimp only;omega) | (simp <;> omega))) rfl rfl pre0 rfl rfl ?_
  first
  | refine hq_ 133 (HOp.val (v':=intV sx.t) (hol_load ty_3 rfl (by first | exact Nat.le_of_ble_eq_true rfl | omega | (dsimp only;omega) | (simp <;> omega)) (by first | exact Nat.le_of_ble_eq_true rfl | omega | (dsimp only;omega) | (simp <;> omega)) (fun h=>(by first | rfl | cases h))) (rfl)) rfl rfl (pre1 rfl) rfl rfl ?_
  | refine hq_ 133 (HOp.val (v':=intV sx.t) (hop_load_fp ty_3 rfl (by first | exact Nat.le_of_ble_eq_true rfl | omega | (dsimp only;omega) | (simp <;> omega)) (fun h=>(by first | rfl | cases h))) (rfl)) rfl rfl pre0 rfl rfl ?_
  first
  | refine hq_ 134 (hop_addi rfl rfl rfl (by first | exact Nat.le_of_ble_eq_true rfl | omega | (dsimp only;omega) | (simp <;> omega)) (by first | exact Nat.le_of_ble_eq_true rfl | omega | (dsimp only;omega) | (simp <;> omega))) rfl rfl pre0 rfl rfl ?_
  | refine hq_ 134 (hop_add rfl rfl) rfl rfl pre0 rfl rfl ?_
  first
  | refine hq_ 135 (hop_fa fd_26_1 rfl) rfl rfl pre0 rfl rfl ?_
  | refine hq_ 135 (hop_fa_fp fd_26_1 rfl (by first | exact Nat.le_of_ble_eq_true rfl | omega | (dsimp only;omega) | (simp <;> omega))) rfl rfl pre0 rfl rfl ?_
  first
  | refine hq_ 136 (HOp.val (v':=intV sx.f) (hol_load ty_3 rfl (by first | exact Nat.le_of_ble_eq_true rfl | omega | (dsimp only;omega) | (simp <;> omega)) (by first | exact Nat.le_of_ble_eq_true rfl | omega | (dsimp only;omega) | (simp <;> omega)) (fun h=>(by first | rfl | cases h))) (rfl)) rfl rfl (pre1 rfl) rfl rfl ?_
  | refine hq_ 136 (HOp.val (v':=intV sx.f) (hop_load_fp ty_3 rfl (by first | exact Nat.le_of_ble_eq_true rfl | omega | (dsimp only;omega) | (simp <;> omega)) (fun h=>(by first | rfl | cases h))) (rfl)) rfl rfl pre0 rfl rfl ?_
  first
  | refine hq_ 137 (hop_subi rfl rfl rfl (by first | exact Nat.le_of_ble_eq_true rfl | omega | (dsimp only;omega) | (simp <;> omega)) (by first | exact Nat.le_of_ble_eq_true rfl | omega | (dsimp only;omega) | (simp <;> omega))) rfl rfl pre0 rfl rfl ?_
  | refine hq_ 137 (hop_sub rfl rfl) rfl rfl pre0 rfl rfl ?_
  first
  | refine hq_ 138 (hop_fa fd_26_2 rfl) rfl rfl pre0 rfl rfl ?_
  | refine hq_ 138 (hop_fa_fp fd_26_2 rfl (by first | exact Nat.le_of_ble_eq_true rfl | omega | (dsimp only;omega) | (simp <;> omega))) rfl rfl pre0 rfl rfl ?_
  first
  | refine hm_s1 (hol_storeW ty_3 rfl rfl rfl rfl) rfl rfl (pre1 rfl) (c':=14) rfl ?_
  | refine hm_s1 (hol_store ty_3 rfl rfl rfl rfl (by first | exact Nat.le_of_ble_eq_true rfl | omega | (dsimp only;omega) | (simp <;> omega)) (by first | exact Nat.le_of_ble_eq_true rfl | omega | (dsimp only;omega) | (simp <;> omega)) (by first | exact Nat.le_of_ble_eq_true rfl | omega | (dsimp only;omega) | (simp <;> omega))) rfl rfl (pre1 rfl) (c':=14) rfl ?_
  refine snl h35<|srg fun N h36=>?_
  first
  | refine hq_ 139 (hol_load ty_26 rfl (by first | exact Nat.le_of_ble_eq_true rfl | omega | (dsimp only;omega) | (simp <;> omega)) (by first | exact Nat.le_of_ble_eq_true rfl | omega | (dsimp only;omega) | (simp <;> omega)) (fun h=>(by first | rfl | cases h))) rfl rfl (pre1 rfl) rfl rfl ?_
  | refine hq_ 139 (hop_load_fp ty_26 rfl (by first | exact Nat.le_of_ble_eq_true rfl | omega | (dsimp only;omega) | (simp <;> omega)) (fun h=>(by first | rfl | cases h))) rfl rfl pre0 rfl rfl ?_
  first
  | refine hq_ 140 (hol_load ty_47 rfl (by first | exact Nat.le_of_ble_eq_true rfl | omega | (dsimp only;omega) | (simp <;> omega)) (by first | exact Nat.le_of_ble_eq_true rfl | omega | (dsimp only;omega) | (simp <;> omega)) (fun h=>(by first | rfl | cases h))) rfl rfl (pre1 rfl) rfl rfl ?_
  | refine hq_ 140 (hop_load_fp ty_47 rfl (by first | exact Nat.le_of_ble_eq_true rfl | omega | (dsimp only;omega) | (simp <;> omega)) (fun h=>(by first | rfl | cases h))) rfl rfl pre0 rfl rfl ?_
  first
  | refine hq_ 141 (hop_fa fd_26_1 rfl) rfl rfl pre0 rfl rfl ?_
  | refine hq_ 141 (hop_fa_fp fd_26_1 rfl (by first | exact Nat.le_of_ble_eq_true rfl | omega | (dsimp only;omega) | (simp <;> omega))) rfl rfl pre0 rfl rfl ?_
  first
  | refine hq_ 142 (HOp.val (v':=intV ((routeV L mir) sx.f 1).1.pos) (hol_load ty_3 rfl (by first | exact Nat.le_of_ble_eq_true rfl | omega | (dsimp only;omega) | (simp <;> omega)) (by first | exact Nat.le_of_ble_eq_true rfl | omega | (dsimp only;omega) | (simp <;> omega)) (fun h=>(by first | rfl | cases h))) (rfl)) rfl rfl (pre1 rfl) rfl rfl ?_
  | refine hq_ 142 (HOp.val (v':=intV ((routeV L mir) sx.f 1).1.pos) (hop_load_fp ty_3 rfl (by first | exact Nat.le_of_ble_eq_true rfl | omega | (dsimp only;omega) | (simp <;> omega)) (fun h=>(by first | rfl | cases h))) (rfl)) rfl rfl pre0 rfl rfl ?_
  refine s0 (hop_call0 (xs:=[_,_,_]) (row26_h L mir hL hok sx ((routeV L mir) sx.f 1).1.pos om om) ⟨rfl,⟨rfl,⟨rfl,trivial⟩⟩⟩ ⟨fe,⟨fe,⟨fe,trivial⟩⟩⟩) ?_
  refine s0 (hop_not rfl) ?_
  refine snl h36 ?_
  refine wc (fun hc6=>?_) (fun hc6=>?_)
  ·have hr6:=hc6;(try simp only [hcs,Int.reduceToNat] at hc6)
   have hn:¬ ((kV (routeV L mir) sx).1=true∧(kV (routeV L mir) sx).2.2=false∧(kV (routeV L mir) sx).2.1.shape=true):=(by rw [kV5 k5];rintro ⟨h1,h2,h3⟩;have h9:=(rowD_iff _ _ _ _).1 ⟨h1,h2⟩;simp [h9] at hr6)
   refine srg fun N h37=>?_
   first
   | refine hq_ 145 (hol_load ty_26 rfl (by first | exact Nat.le_of_ble_eq_true rfl | omega | (dsimp only;omega) | (simp <;> omega)) (by first | exact Nat.le_of_ble_eq_true rfl | omega | (dsimp only;omega) | (simp <;> omega)) (fun h=>(by first | rfl | cases h))) rfl rfl (pre1 rfl) rfl rfl ?_
   | refine hq_ 145 (hop_load_fp ty_26 rfl (by first | exact Nat.le_of_ble_eq_true rfl | omega | (dsimp only;omega) | (simp <;> omega)) (fun h=>(by first | rfl | cases h))) rfl rfl pre0 rfl rfl ?_
   first
   | refine hm_s1 (hol_storeW ty_26 rfl rfl rfl rfl) rfl rfl (pre1 rfl) (c':=15) rfl ?_
   | refine hm_s1 (hol_store ty_26 rfl rfl rfl rfl (by first | exact Nat.le_of_ble_eq_true rfl | omega | (dsimp only;omega) | (simp <;> omega)) (by first | exact Nat.le_of_ble_eq_true rfl | omega | (dsimp only;omega) | (simp <;> omega)) (by first | exact Nat.le_of_ble_eq_true rfl | omega | (dsimp only;omega) | (simp <;> omega))) rfl rfl (pre1 rfl) (c':=15) rfl ?_
   refine sa<|snl h37<|hw_ret<|hq_then_ret ?_
   refine hq_ret2 rfl (rvl_cell rfl rfl ty_26 rqc rfl rfl) (rval_tmp rfl) [] rfl pre0 ?_
   rw [byV_no hn];exact fz_t2 (fz_agg10 fzc fzc fzc fzc fzc fzc fzc fzc fzc fzc) (.imm _)
  have hr6:=hc6;(try simp only [hcs,Int.reduceToNat] at hc6)
  have hy:(kV (routeV L mir) sx).1=true∧(kV (routeV L mir) sx).2.2=false:=(by rw [kV5 k5];exact (rowD_iff _ _ _ _).2 (by simpa using hr6))
  refine hw_skip<|h33 _<|hw_seq fun Nh38 h38=>hw_seq fun Nh39 h39=>?_
  have ho:(kV (routeV L mir) sx).2.1=(outV (routeV L mir) sx).mv (outV (routeV L mir) sx).f (((routeV L mir) sx.f 1).1.pos+sx.t - sx.f) sx.gf sx.gt:=(by rw [kV5 k5])
  refine hw_region ?_
  first
  | refine hq_ 146 (hol_load ty_26 rfl (by first | exact Nat.le_of_ble_eq_true rfl | omega | (dsimp only;omega) | (simp <;> omega)) (by first | exact Nat.le_of_ble_eq_true rfl | omega | (dsimp only;omega) | (simp <;> omega)) (fun h=>(by first | rfl | cases h))) rfl rfl (pre1 rfl) rfl rfl ?_
  | refine hq_ 146 (hop_load_fp ty_26 rfl (by first | exact Nat.le_of_ble_eq_true rfl | omega | (dsimp only;omega) | (simp <;> omega)) (fun h=>(by first | rfl | cases h))) rfl rfl pre0 rfl rfl ?_
  refine s0 (hop_call0 (xs:=[_]) (shape25_h ((outV (routeV L mir) sx).mv (outV (routeV L mir) sx).f (((routeV L mir) sx.f 1).1.pos+sx.t - sx.f) sx.gf sx.gt) (by show sx.sl.length≤_;omega) (by show sx.sets.length≤_;omega)) ⟨rfl,trivial⟩ ⟨(fz_agg10 fzc fzc fzc fzc fzc fzc fzc fzc (by exact fz_toks sx.sl) (by exact fz_mkss sx.sets)),trivial⟩) ?_
  refine s0 (hop_not rfl) ?_
  refine snl h39 ?_
  refine wc (fun hc7=>?_) (fun hc7=>?_)
  ·have hr7:=hc7;(try simp only [hcs,Int.reduceToNat] at hc7)
   refine srg fun N h40=>?_
   first
   | refine hq_ 149 (hol_load ty_26 rfl (by first | exact Nat.le_of_ble_eq_true rfl | omega | (dsimp only;omega) | (simp <;> omega)) (by first | exact Nat.le_of_ble_eq_true rfl | omega | (dsimp only;omega) | (simp <;> omega)) (fun h=>(by first | rfl | cases h))) rfl rfl (pre1 rfl) rfl rfl ?_
   | refine hq_ 149 (hop_load_fp ty_26 rfl (by first | exact Nat.le_of_ble_eq_true rfl | omega | (dsimp only;omega) | (simp <;> omega)) (fun h=>(by first | rfl | cases h))) rfl rfl pre0 rfl rfl ?_
   first
   | refine hm_s1 (hol_storeW ty_26 rfl rfl rfl rfl) rfl rfl (pre1 rfl) (c':=15) rfl ?_
   | refine hm_s1 (hol_store ty_26 rfl rfl rfl rfl (by first | exact Nat.le_of_ble_eq_true rfl | omega | (dsimp only;omega) | (simp <;> omega)) (by first | exact Nat.le_of_ble_eq_true rfl | omega | (dsimp only;omega) | (simp <;> omega)) (by first | exact Nat.le_of_ble_eq_true rfl | omega | (dsimp only;omega) | (simp <;> omega))) rfl rfl (pre1 rfl) (c':=15) rfl ?_
   refine sa<|snl h40<|hw_ret<|hq_then_ret ?_
   refine hq_ret2 rfl (rvl_cell rfl rfl ty_26 rqc rfl rfl) (rval_tmp rfl) [] rfl pre0 ?_
   rw [byV_no (fun h=>by rw [ho] at h;simp [h.2.2] at hr7)];exact fz_t2 (fz_agg10 fzc fzc fzc fzc fzc fzc fzc fzc fzc fzc) (.imm _)
  have hr7:=hc7;(try simp only [hcs,Int.reduceToNat] at hc7)
  refine hw_skip<|h38 _<|srg fun N h41=>?_
  first
  | refine hq_ 150 (hol_load ty_26 rfl (by first | exact Nat.le_of_ble_eq_true rfl | omega | (dsimp only;omega) | (simp <;> omega)) (by first | exact Nat.le_of_ble_eq_true rfl | omega | (dsimp only;omega) | (simp <;> omega)) (fun h=>(by first | rfl | cases h))) rfl rfl (pre1 rfl) rfl rfl ?_
  | refine hq_ 150 (hop_load_fp ty_26 rfl (by first | exact Nat.le_of_ble_eq_true rfl | omega | (dsimp only;omega) | (simp <;> omega)) (fun h=>(by first | rfl | cases h))) rfl rfl pre0 rfl rfl ?_
  first
  | refine hm_s1 (hol_storeW ty_26 rfl rfl rfl rfl) rfl rfl (pre1 rfl) (c':=15) rfl ?_
  | refine hm_s1 (hol_store ty_26 rfl rfl rfl rfl (by first | exact Nat.le_of_ble_eq_true rfl | omega | (dsimp only;omega) | (simp <;> omega)) (by first | exact Nat.le_of_ble_eq_true rfl | omega | (dsimp only;omega) | (simp <;> omega)) (by first | exact Nat.le_of_ble_eq_true rfl | omega | (dsimp only;omega) | (simp <;> omega))) rfl rfl (pre1 rfl) (c':=15) rfl ?_
  refine sa<|snl h41<|hw_ret ?_
  refine hq_ret2 rfl (rvl_cell rfl rfl ty_26 rqc rfl rfl) (rval_tmp rfl) [] rfl pre0 ?_
  rw [byV_yes hs hg ⟨hy.1,hy.2,by rw [ho];simpa using hr7⟩,ho];exact fz_t2 (fz_agg10 fzc fzc fzc fzc fzc fzc fzc fzc (by exact fz_toks sx.sl) (by exact fz_mkss sx.sets)) (.imm _)
 have hr5:=hc5;(try simp only [hcs,Int.reduceToNat] at hc5)
 have hk1:(kV (routeV L mir) sx)=(true,outV (routeV L mir) sx,false):=(by by_cases h3:sx.k=3∨sx.k=4;(rw [kV3 h3];have h9:=hr4;simp at h9;have h8:=h9 h3;rw [decide_eq_true om]);exact kV1 om h3 om);have hy:(kV (routeV L mir) sx).1=true∧(kV (routeV L mir) sx).2.2=false:=(by rw [hk1];exact ⟨rfl,rfl⟩)
 refine hw_skip<|h33 _<|hw_seq fun Nh42 h42=>hw_seq fun Nh43 h43=>?_
 have ho:(kV (routeV L mir) sx).2.1=outV (routeV L mir) sx:=(by rw [hk1])
 refine hw_region ?_
 first
 | refine hq_ 146 (hol_load ty_26 rfl (by first | exact Nat.le_of_ble_eq_true rfl | omega | (dsimp only;omega) | (simp <;> omega)) (by first | exact Nat.le_of_ble_eq_true rfl | omega | (dsimp only;omega) | (simp <;> omega)) (fun h=>(by first | rfl | cases h))) rfl rfl (pre1 rfl) rfl rfl ?_
 | refine hq_ 146 (hop_load_fp ty_26 rfl (by first | exact Nat.le_of_ble_eq_true rfl | omega | (dsimp only;omega) | (simp <;> omega)) (fun h=>(by first | rfl | cases h))) rfl rfl pre0 rfl rfl ?_
 refine s0 (hop_call0 (xs:=[_]) (shape25_h (outV (routeV L mir) sx) (by show sx.sl.length≤_;omega) (by show sx.sets.length≤_;omega)) ⟨rfl,trivial⟩ ⟨(fz_agg10 fzc fzc fzc fzc fzc fzc fzc fzc (by exact fz_toks sx.sl) (by exact fz_mkss sx.sets)),trivial⟩) ?_
 refine s0 (hop_not rfl) ?_
 refine snl h43 ?_
 refine wc (fun hc7=>?_) (fun hc7=>?_)
 ·have hr7:=hc7;(try simp only [hcs,Int.reduceToNat] at hc7)
  refine srg fun N h44=>?_
  first
  | refine hq_ 149 (hol_load ty_26 rfl (by first | exact Nat.le_of_ble_eq_true rfl | omega | (dsimp only;omega) | (simp <;> omega)) (by first | exact Nat.le_of_ble_eq_true rfl | omega | (dsimp only;omega) | (simp <;> omega)) (fun h=>(by first | rfl | cases h))) rfl rfl (pre1 rfl) rfl rfl ?_
  | refine hq_ 149 (hop_load_fp ty_26 rfl (by first | exact Nat.le_of_ble_eq_true rfl | omega | (dsimp only;omega) | (simp <;> omega)) (fun h=>(by first | rfl | cases h))) rfl rfl pre0 rfl rfl ?_
  first
  | refine hm_s1 (hol_storeW ty_26 rfl rfl rfl rfl) rfl rfl (pre1 rfl) (c':=14) rfl ?_
  | refine hm_s1 (hol_store ty_26 rfl rfl rfl rfl (by first | exact Nat.le_of_ble_eq_true rfl | omega | (dsimp only;omega) | (simp <;> omega)) (by first | exact Nat.le_of_ble_eq_true rfl | omega | (dsimp only;omega) | (simp <;> omega)) (by first | exact Nat.le_of_ble_eq_true rfl | omega | (dsimp only;omega) | (simp <;> omega))) rfl rfl (pre1 rfl) (c':=14) rfl ?_
  refine sa<|snl h44<|hw_ret<|hq_then_ret ?_
  refine hq_ret2 rfl (rvl_cell rfl rfl ty_26 rqc rfl rfl) (rval_tmp rfl) [] rfl pre0 ?_
  rw [byV_no (fun h=>by rw [ho] at h;simp [h.2.2] at hr7)];exact fz_t2 (fz_agg10 fzc fzc fzc fzc fzc fzc fzc fzc fzc fzc) (.imm _)
 have hr7:=hc7;(try simp only [hcs,Int.reduceToNat] at hc7)
 refine hw_skip<|h42 _<|srg fun N h45=>?_
 first
 | refine hq_ 150 (hol_load ty_26 rfl (by first | exact Nat.le_of_ble_eq_true rfl | omega | (dsimp only;omega) | (simp <;> omega)) (by first | exact Nat.le_of_ble_eq_true rfl | omega | (dsimp only;omega) | (simp <;> omega)) (fun h=>(by first | rfl | cases h))) rfl rfl (pre1 rfl) rfl rfl ?_
 | refine hq_ 150 (hop_load_fp ty_26 rfl (by first | exact Nat.le_of_ble_eq_true rfl | omega | (dsimp only;omega) | (simp <;> omega)) (fun h=>(by first | rfl | cases h))) rfl rfl pre0 rfl rfl ?_
 first
 | refine hm_s1 (hol_storeW ty_26 rfl rfl rfl rfl) rfl rfl (pre1 rfl) (c':=14) rfl ?_
 | refine hm_s1 (hol_store ty_26 rfl rfl rfl rfl (by first | exact Nat.le_of_ble_eq_true rfl | omega | (dsimp only;omega) | (simp <;> omega)) (by first | exact Nat.le_of_ble_eq_true rfl | omega | (dsimp only;omega) | (simp <;> omega)) (by first | exact Nat.le_of_ble_eq_true rfl | omega | (dsimp only;omega) | (simp <;> omega))) rfl rfl (pre1 rfl) (c':=14) rfl ?_
 refine sa<|snl h45<|hw_ret ?_
 refine hq_ret2 rfl (rvl_cell rfl rfl ty_26 rqc rfl rfl) (rval_tmp rfl) [] rfl pre0 ?_
 rw [byV_yes hs hg ⟨hy.1,hy.2,by rw [ho];simpa using hr7⟩,ho];exact fz_t2 (fz_agg10 fzc fzc fzc fzc fzc fzc fzc fzc (by exact fz_toks sx.sl) (by exact fz_mkss sx.sets)) (.imm _)
section
variable {P:Program} {ov:Nat→Option HV} {g:Nat} {d:Option Tmp} {ty:TypeId} {pos:String} {af:Array Edge} {gd:Option (Nat×Bool)}
theorem hop_eql_bn {x y:Operand} {T yT:TypeId} {f:Fn} {h:HV} (hT:∀ (f:Fn) (t b:Array Value) (w:World),(binOp .eql T (.func f t b) .nilFunc).run P w=.ok (.bool false) w) (h1:ovl ov x=some (.bnd f h)) (h2:ovl ov y=some (.imm .nilFunc)):HOp P ⟨d,.binOp .eql T x y yT,ty,pos,af,gd⟩ ov g [] (.imm (.bool false)) [] :=
  hop_pure fun w E ρ hr=>by
    have h:=hr x _ (by simp [Op.operands]) h1
    have e2:=Rep.imm_inv (hr y _ (by simp [Op.operands]) h2)
    generalize hρ:ρ x=u at h
    cases h with
    | bnd _ v _ hv =>
      refine ⟨.bool false,?_,.imm _⟩
      have e:=hT f #[v] #[] w
      simp [execOp,hρ,e2,eqGuard,e]
def flOf (P:Program) (T:TypeId) (k:Nat):Option Nat :=
  match P.underlying T with
  | some (.struct fs) => (fs[k]?).bind fun f => match P.underlying f.type with
    | some (.struct _)=>none
    | some (.array _ _)=>none
    | some _=>some f.offset
    | none=>none
  | _=>none
theorem flOf_spec {T:TypeId} {k fo:Nat} (h:flOf P T k=some fo) (cs:Array Value) (v:Value) (hv:cs[fo]?=some v) (w:World):(Instr.field T (.agg cs) k).run P w=.ok v w:=by
 unfold flOf at h
 split at h
 ·rename_i fs hu
  obtain ⟨f,hf,h⟩:=Option.bind_eq_some_iff.1 h
  have key:∀ b,P.underlying f.type=some b→(match b with | .struct _=>true | .array _ _=>true | _=>false)=false→fo=f.offset→(Instr.field T (.agg cs) k).run P w=.ok v w:=by
   intro b hb hn ho
   subst ho
   have ha:(isAgg f.type).run P w=.ok false w:=by
    unfold isAgg
    rw [Sem.run_bind,run_underlying hb]
    cases b <;> first | rfl | cases hn
   simp [Instr.field,run_underlying hu,hf,asAgg,part,Sem.run_bind,ha,hv]
  split at h
  ·cases h
  ·cases h
  ·rename_i b hns hna hb
   injection h with h
   exact key b hb (by cases b <;> first | rfl | exact absurd rfl (hns _) | exact absurd rfl (hna _ _)) h.symm
  ·cases h
 ·cases h
theorem hop_field {n k fo:Nat} {T:TypeId} {x:Operand} {f:Nat→HV} (hT:flOf P T k=some fo) (h1:ovl ov x=some (.agg n f)) (hn:fo < n):HOp P ⟨d,.field T x k,ty,pos,af,gd⟩ ov g [] (f fo) [] :=
  hop_pure fun w E ρ hr=>by
    have h:=hr x _ (by simp [Op.operands]) h1
    generalize hρ:ρ x=u at h
    cases h with
    | agg cs _ _ vs hn' hv h =>
      exact ⟨vs fo,by simp only [execOp,hρ,flOf_spec hT cs (vs fo) (hv fo hn).1 w,Sem.run_bind,Sem.run_pure,Result.andThen_ok],h fo hn⟩
end
section
variable {P:Program} {ops:Array Oper} {g:Nat}
theorem hstep_known {o:Oper} {tm:Nat→Option TV} {pre post:List (Nat×HObj)} {v:HV} (gi j:Nat) (b:Bool) (hg:o.guard=some (gi,b)) (hgi:(ops[gi]?).bind (·.dst)=some j) (hc:tm j=some (.v (.imm (.bool b)))) (h:HOp P o (pview tm) g pre v post):HStep P ops o tm g ⟨.v v,j::ops_tmps o,pre,post⟩:=by
  intro K w0 F0 E hh a w Q N r ht hG hBd hp hN
  have hj:a.tmps.getD j undef=.bool b:=Rep.imm_inv (ht j _ (List.mem_cons_self ..) hc)
  have hwant:Region.wanted o (yielded ops a.tmps)=true:=by
    unfold Region.wanted yielded
    rw [hg]
    simp only [hgi,Option.bind_some]
    by_cases hjs:j < a.tmps.size
    · have e1:a.tmps[j]?=some a.tmps[j]:=Array.getElem?_eq_getElem hjs
      have e2:a.tmps.getD j undef=a.tmps[j]:=by simp [hjs]
      rw [e1,←e2,hj];simp
    · have e2:a.tmps.getD j undef=undef:=by simp [hjs]
      rw [e2] at hj;simp [undef] at hj
  rw [if_pos hwant]
  refine h K w0 F0 E hh a w Q N r (fun x hv hx ho=>?_) hG hBd hp hN
  cases x with
  | tmp t =>
    simp only [ovl,pview] at ho
    split at ho
    · rename_i y hy
      injection ho with ho
      subst ho
      exact ht t _ (List.mem_cons_of_mem _ (mem_tmps hx)) hy
    · cases ho
  | const v=>exact rep_cst w E _ v hv (by exact ho)
  | global g=>injection ho with ho;subst ho;exact .imm _
  | func f=>injection ho with ho;subst ho;exact .fn _ _ 0 _ (fun _=>undef) rfl (fun i hi=>absurd hi (Nat.not_lt_zero _)) (fun i hi=>absurd hi (Nat.not_lt_zero _))
end
section
variable {C:Ctx} {P:Program} {ops:Array Oper} {Q:Exit→Act→World→Prop} {n clk:Nat} {tm:List (Nat×TV)} {hp:List (Nat×HObj)} {rest:List Oper} {o:Oper} {pre post:List (Nat×HObj)} {v:HV}
theorem hq_k (d j:Nat) (b:Bool) (hop:HOp P o (pview (tget tm)) clk pre v []) (hd:o.dst=some d) {gi:Nat} (hg:o.guard=some (gi,b)) (hgi:(ops[gi]?).bind (·.dst)=some j) (hc:tget tm j=some (.v (.imm (.bool b)))) (hpre:∀ p∈pre,hget hp p.1=some p.2) (hlt:Nat.blt d n=true) (hk:nokey tm d=true)
  (h:HSeq C P ops rest ⟨n,(d,.v v)::tm,hp,clk⟩ Q):HSeq C P ops (o::rest) ⟨n,tm,hp,clk⟩ Q :=
 hseq_consq (s:=⟨n,tm,hp,clk⟩) d _ hd rfl (hstep_known gi j b hg hgi hc hop) hpre hlt hk h (fun j' b' x h=>by cases h)
theorem hm_k (d j:Nat) (b:Bool) (hop:HOp P o (pview (tget tm)) clk pre v post) (hd:o.dst=some d) {gi:Nat} (hg:o.guard=some (gi,b)) (hgi:(ops[gi]?).bind (·.dst)=some j) (hc:tget tm j=some (.v (.imm (.bool b)))) (hpre:∀ p∈pre,hget hp p.1=some p.2) (hlt:Nat.blt d n=true) (hk:nokey tm d=true) {c':Nat} (hcc:clk+1=c')
  (h:HSeq C P ops rest ⟨n,(d,.v v)::tm,post++hp,c'⟩ Q):HSeq C P ops (o::rest) ⟨n,tm,hp,clk⟩ Q:=by
 subst hcc;exact hseq_cons (s:=⟨n,tm,hp,clk⟩) d _ hd (hstep_known gi j b hg hgi hc hop) hpre hlt hk h (fun j b x h=>by cases h)
end
section
variable {P:Program} {ov:Nat→Option HV} {g:Nat} {d:Option Tmp} {ty:TypeId} {pos:String} {af:Array Edge} {gd:Option (Nat×Bool)} {x y z:Operand} {hx:HV}
theorem hop_pick_t (h1:ovl ov x=some (.imm (.bool true))) (h2:ovl ov y=some hx):HOp P ⟨d,.pick x y z,ty,pos,af,gd⟩ ov g [] hx [] :=
 hop_pure fun w E ρ hr=>by
  have e1:=Rep.imm_inv (hr x _ (by simp [Op.operands]) h1)
  exact ⟨ρ y,by simp [execOp,e1,asBool],hr y _ (by simp [Op.operands]) h2⟩
theorem hop_pick_f (h1:ovl ov x=some (.imm (.bool false))) (h2:ovl ov z=some hx):HOp P ⟨d,.pick x y z,ty,pos,af,gd⟩ ov g [] hx [] :=
 hop_pure fun w E ρ hr=>by
  have e1:=Rep.imm_inv (hr x _ (by simp [Op.operands]) h1)
  exact ⟨ρ z,by simp [execOp,e1,asBool],hr z _ (by simp [Op.operands]) h2⟩
end
theorem fz2i {sh:List (Nat×HObj)} {f f':Nat→HV} (h0:Fz sh (f 0) (f' 0)) (h1:Fz sh (f 1) (f' 1)):Fz sh (.agg 2 f) (.agg 2 f'):=.agg _ _ _ fun i hi=>by
 match i,hi with
 | 0,_=>exact h0
 | 1,_=>exact h1
theorem fz_rg1 {sh:List (Nat×HObj)} {F:Nat→Nat→HV} {a b c:Int} (h0:F 0 0=intV a) (h1:F 0 1=intV b) (h2:F 0 2=intV c):∀ i j,i < [(⟨a,b,c⟩:Rg)].length→j < 3→Fz sh (F i j) (rgF ([(⟨a,b,c⟩:Rg)].getD i default) j):=fun i j hi hj=>by
 have hi:i < 1:=hi
 obtain rfl:i=0:=by omega
 match j,hj with
 | 0,_=>rw [h0];exact .imm _
 | 1,_=>rw [h1];exact .imm _
 | 2,_=>rw [h2];exact .imm _
def KT (s:St) (T:TypeId):Prop:=(s.k=1∧T=129)∨(s.k=2∧T=130)∨((s.k=3∨s.k=4)∧T=131)∨(s.k=5∧T=132)
def freeV (L:List (List Rg)) (mir:List (Int×Int)) (f:Int):Bool:=(decide (f≥0)&&decide (f < L.length))&&decide (ofsV L mir f.toNat < 0)
def MirOk (n:Nat) (mir:List (Int×Int)):Prop:=∀ i k,lkI mir i=some k→(0≤i∧i < n)∧(0≤k∧k < n)∧k≠i
theorem mirOk_no {n:Nat} {mir:List (Int×Int)} (h:MirOk n mir):lkI mir (n:Int)=none:=by
 cases e:lkI mir (n:Int) with
 | none=>rfl
 | some k=>have:=(h _ _ e).1.2;omega
theorem mirOk_more {n:Nat} {mir:List (Int×Int)} (h:MirOk n mir):MirOk (n+1) mir:=fun i k e=>by have:=h i k e;omega
theorem mirOk_put {n:Nat} {mir:List (Int×Int)} (h:MirOk n mir) {f:Int} (hf:0≤f∧f < n):MirOk (n+1) (mirS mir f n):=fun i k e=>by
  have e2:mirS mir f n=(mir++[(f,(n:Int))])++[((n:Int),f)]:=by unfold mirS;simp
  rw [e2,lkI_snoc,lkI_snoc] at e
  cases h1:lkI mir i with
  | some q=>rw [h1] at e;injection e with e;subst e;have:=h i q h1;omega
  | none =>
    rw [h1] at e
    by_cases h2:i=f
    · rw [show (if i=f then some (n:Int) else none)=some (n:Int) from if_pos h2] at e
      injection e with e;omega
    · rw [show (if i=f then some (n:Int) else none)=none from if_neg h2] at e
      by_cases h3:i=n
      · rw [show (if i=(n:Int) then some f else none)=some f from if_pos h3] at e
        injection e with e;omega
      · rw [show (if i=(n:Int) then some f else none)=none from if_neg h3] at e;cases e
theorem ofs_lk {L:List (List Rg)} {mir:List (Int×Int)} (i:Nat) (hi:i < L.length):ofsV L mir i=(lkI mir (i:Int)).getD (-1):=by
 unfold ofsV ofV;rw [if_neg (by omega)]
theorem ofs_more {L:List (List Rg)} {mir:List (Int×Int)} {m:List Rg} (h:MirOk L.length mir) (i:Nat) (hi:i < L.length+1):ofsV (L++[m]) mir i=if i < L.length then ofsV L mir i else -1:=by
 rw [ofs_lk i (by simp;omega)]
 by_cases e:i < L.length
 ·rw [if_pos e,ofs_lk i e]
 ·obtain rfl:i=L.length:=by omega
  rw [if_neg e,mirOk_no h];rfl
theorem free_lk {L:List (List Rg)} {mir:List (Int×Int)} (h:MirOk L.length mir) {f:Int} (hf:freeV L mir f=true):(0≤f∧f < L.length)∧lkI mir f=none:=by
 unfold freeV at hf
 simp only [Bool.and_eq_true,decide_eq_true_eq] at hf
 obtain ⟨⟨h1,h2⟩,h3⟩:=hf
 refine ⟨⟨h1,h2⟩,?_⟩
 rw [ofs_lk f.toNat (by omega),show ((f.toNat:Nat):Int)=f by omega] at h3
 cases e:lkI mir f with
 | none=>rfl
 | some k=>rw [e] at h3;have:=(h _ _ e).2.1.1;have h3:k < 0:=h3;omega
theorem ofs_put {L:List (List Rg)} {mir:List (Int×Int)} {m:List Rg} (h:MirOk L.length mir) {f:Int} (hf:(0≤f∧f < L.length)∧lkI mir f=none) (i:Nat) (hi:i < L.length+1):ofsV (L++[m]) (mirS mir f L.length) i=if i=f.toNat then (L.length:Int) else if i < L.length then ofsV L mir i else f:=by
  have e2:mirS mir f L.length=(mir++[(f,(L.length:Int))])++[((L.length:Int),f)]:=by unfold mirS;simp
  rw [ofs_lk i (by simp;omega),e2,lkI_snoc,lkI_snoc]
  by_cases e:i=f.toNat
  · have ef:(i:Int)=f:=by omega
    rw [if_pos e,ef,hf.2]
    rw [show (if f=f then some (L.length:Int) else none)=some (L.length:Int) from if_pos rfl];rfl
  · have ef:¬ (i:Int)=f:=by omega
    rw [if_neg e]
    by_cases hl:i < L.length
    · rw [if_pos hl,ofs_lk i hl]
      cases h1:lkI mir (i:Int) with
      | some q=>rfl
      | none =>
        rw [show (if (i:Int)=f then some (L.length:Int) else none)=none from if_neg ef]
        rw [show (if (i:Int)=(L.length:Int) then some f else none)=none from if_neg (by omega)]
    · obtain rfl:i=L.length:=by omega
      rw [if_neg hl,mirOk_no h]
      rw [show (if ((L.length:Nat):Int)=f then some (L.length:Int) else none)=none from if_neg ef]
      rw [show (if ((L.length:Nat):Int)=((L.length:Nat):Int) then some f else none)=some f from if_pos rfl];rfl
theorem fz_rtS {sh:List (Nat×HObj)} {id1 id2 g1 g2 n1 n2:Nat} {o1 o2:HObj} {f:Nat→HV} {L:List (List Rg)} {mir:List (Int×Int)} (h0:f 0=.os id1 g1 0 n1) (h1:f 1=.os id2 g2 0 n2) (m1:(id1,o1)∈sh) (m2:(id2,o2)∈sh) (e1:o1.g=g1) (e2:o2.g=g2) (s1:o1.sz=1) (s2:o2.sz=1) (hn1:n1=L.length) (hn2:n2=L.length) (c1:n1≤o1.n) (c2:n2≤o2.n)
  (p1:∀ i,i < L.length→Fz sh (o1.f i 0) (rgsV (L.getD i []))) (p2:∀ i,i < L.length→Fz sh (o2.f i 0) (intV (ofsV L mir i))):Fz sh (.agg 2 f) (rt24 L mir):=by
 subst hn1;subst hn2
 refine fz2i ?_ ?_
 ·rw [h0]
  show Fz sh _ (.sl 1 L.length (fun i _=>rgsV (L.getD i [])))
  rw [←s1]
  exact Fz.os _ _ _ _ _ _ m1 e1 (by omega) (fun i j hi hj=>by rw [s1] at hj;obtain rfl:j=0:=(by omega);rw [Nat.zero_add];exact p1 i hi)
 ·rw [h1]
  show Fz sh _ (.sl 1 L.length (fun i _=>intV (ofsV L mir i)))
  rw [←s2]
  exact Fz.os _ _ _ _ _ _ m2 e2 (by omega) (fun i j hi hj=>by rw [s2] at hj;obtain rfl:j=0:=(by omega);rw [Nat.zero_add];exact p2 i hi)
theorem c2_lt {n i:Nat} {A G H:Nat→Nat→HV} (h:i < n):cat (0+n) (cat 0 A G) H i 0=G i 0:=by
 rw [cat_lt (by omega),cat_ge (Nat.zero_le _)];rfl
theorem c2_ge {n:Nat} {X H:Nat→Nat→HV}:cat (0+n) X H n 0=H 0 0:=by
 rw [cat_ge (by omega),show n - (0+n)=0 by omega]
theorem getD_snoc {L:List (List Rg)} {m:List Rg} {i:Nat} (hi:i < (L++[m]).length):(L++[m]).getD i []=if i < L.length then L.getD i [] else m:=by
 by_cases e:i < L.length
 ·rw [if_pos e,List.getD_eq_getElem?_getD,List.getElem?_append_left e,←List.getD_eq_getElem?_getD]
 ·have hi:i < L.length+1:=by simpa using hi
  obtain rfl:i=L.length:=by omega
  rw [if_neg e,List.getD_eq_getElem?_getD,List.getElem?_append_right (Nat.le_refl _),Nat.sub_self];rfl
theorem fz_mapsS {sh:List (Nat×HObj)} {L:List (List Rg)} {m:List Rg} {A:Nat→Nat→HV} (i:Nat) (hi:i < (L++[m]).length):Fz sh (cat (0+L.length) (cat 0 A fun i x=>rgsV (L.getD i [])) (bsf [rgsV m]) i 0) (rgsV ((L++[m]).getD i [])):=by
 rw [getD_snoc hi]
 by_cases e:i < L.length
 ·rw [c2_lt e,if_pos e];exact Frz.fz
 ·have hi:i < L.length+1:=by simpa using hi
  obtain rfl:i=L.length:=by omega
  rw [c2_ge,if_neg e];exact (show Fz sh (rgsV m) (rgsV m) from Frz.fz)
theorem ofs_cell {L:List (List Rg)} {mir:List (Int×Int)} {f:Int} {A:Nat→Nat→HV} (i:Nat) (hi:i < L.length+1):cat (0+L.length) (cat 0 A fun i x=>intV (ofsV L mir i)) (bsf [intV f]) i 0=intV (if i < L.length then ofsV L mir i else f):=by
 by_cases e:i < L.length
 ·rw [c2_lt e,if_pos e]
 ·obtain rfl:i=L.length:=by omega
  rw [c2_ge,if_neg e];rfl
theorem free_h (L:List (List Rg)) (mir:List (Int×Int)) (f:Int):HPure Try.prog 19 [rt24 L mir,intV f] (boolV (freeV L mir f)):=by
 refine hpure_of Try.func19 rfl kr _ _ _ rfl 22 rfl rfl (fun w F=>?_)
 refine srg fun N h1=>?_
 refine hm_1 2 (hop_box (id:=2) (sz:=2) rfl rfl rfl omx omx) rfl rfl pre0 rfl rfl (c':=1) rfl ?_
 refine sa<|snl h1<|srg fun N h2=>sm ?_
 refine s0 (hop_geq rfl rfl) ?_
 refine sm ?_
 first
 | refine stg 7 (fun hb=>hop_move rfl) rfl rfl rfl rfl rfl ?_
 | refine sth 7 (fun hb=>hop_move rfl) rfl rfl rfl rfl rfl ?_
 first
 | refine stg 7 (fun hb=>hop_fa fd_47_0 rfl) rfl rfl rfl rfl rfl ?_
 | refine sth 7 (fun hb=>hop_fa fd_47_0 rfl) rfl rfl rfl rfl rfl ?_
 | refine stg 7 (fun hb=>hop_fa_fp fd_47_0 rfl (by first | exact Nat.le_of_ble_eq_true rfl | (simp at hb;first | omega | (dsimp only;omega) | (simp <;> omega)) | omega | (dsimp only;omega))) rfl rfl rfl rfl rfl ?_
 | refine sth 7 (fun hb=>hop_fa_fp fd_47_0 rfl (by first | exact Nat.le_of_ble_eq_true rfl | (simp at hb;first | omega | (dsimp only;omega) | (simp <;> omega)) | omega | (dsimp only;omega))) rfl rfl rfl rfl rfl ?_
 first
 | refine hq_g 10 2 7 true _ (fun hb=>hol_load ty_41 rfl (by first | exact Nat.le_of_ble_eq_true rfl | (simp at hb;first | omega | (dsimp only;omega) | (simp <;> omega)) | omega | (dsimp only;omega)) (by first | exact Nat.le_of_ble_eq_true rfl | (simp at hb;first | omega | (dsimp only;omega) | (simp <;> omega)) | omega | (dsimp only;omega)) (fun h=>(by first | rfl | cases h))) rfl rfl rfl rfl (pre1 rfl) rfl rfl rfl ?_
 | refine hq_g2 10 2 7 _ _ true _ (fun hb=>hol_load ty_41 rfl (by first | exact Nat.le_of_ble_eq_true rfl | (simp at hb;first | omega | (dsimp only;omega) | (simp <;> omega)) | omega | (dsimp only;omega)) (by first | exact Nat.le_of_ble_eq_true rfl | (simp at hb;first | omega | (dsimp only;omega) | (simp <;> omega)) | omega | (dsimp only;omega)) (fun h=>(by first | rfl | cases h))) rfl rfl rfl rfl (pre1 rfl) rfl rfl rfl ?_
 | refine stg 7 (fun hb=>hop_load_fp ty_41 rfl (by first | exact Nat.le_of_ble_eq_true rfl | (simp at hb;first | omega | (dsimp only;omega) | (simp <;> omega)) | omega | (dsimp only;omega)) (fun h=>(by first | rfl | cases h))) rfl rfl rfl rfl rfl ?_
 | refine sth 7 (fun hb=>hop_load_fp ty_41 rfl (by first | exact Nat.le_of_ble_eq_true rfl | (simp at hb;first | omega | (dsimp only;omega) | (simp <;> omega)) | omega | (dsimp only;omega)) (fun h=>(by first | rfl | cases h))) rfl rfl rfl rfl rfl ?_
 first
 | refine stg 7 (fun hb=>hop_len_sl (T:=41) rfl (elOf_spec el_41).1 rfl) rfl rfl rfl rfl rfl ?_
 | refine sth 7 (fun hb=>hop_len_sl (T:=41) rfl (elOf_spec el_41).1 rfl) rfl rfl rfl rfl rfl ?_
 | refine stg 7 (fun hb=>hop_len_os (T:=41) rfl (elOf_spec el_41).1 rfl) rfl rfl rfl rfl rfl ?_
 | refine sth 7 (fun hb=>hop_len_os (T:=41) rfl (elOf_spec el_41).1 rfl) rfl rfl rfl rfl rfl ?_
 | refine stg 7 (fun hb=>hop_len_nil (T:=41) rfl (elOf_spec el_41).1 rfl) rfl rfl rfl rfl rfl ?_
 | refine sth 7 (fun hb=>hop_len_nil (T:=41) rfl (elOf_spec el_41).1 rfl) rfl rfl rfl rfl rfl ?_
 first
 | refine stg 7 (fun hb=>hop_lss rfl rfl) rfl rfl rfl rfl rfl ?_
 | refine sth 7 (fun hb=>hop_lss rfl rfl) rfl rfl rfl rfl rfl ?_
 first
 | refine hq_p 13 (hstep_and _ _ rfl rfl rfl) rfl rfl rfl ?_
 | refine hq_p 13 (hstep_or _ _ rfl rfl rfl) rfl rfl rfl ?_
 | refine hq_p 13 (hstep_ite _ _ _ rfl rfl rfl) rfl rfl rfl ?_
 | refine hq_p 13 (hstep_pick _ _ _ _ rfl rfl rfl (fun _=>.refl _) (fun _=>.refl _)) rfl rfl rfl ?_
 refine sm ?_
 first
 | refine stg 14 (fun hb=>hop_fa fd_47_1 rfl) rfl rfl rfl rfl rfl ?_
 | refine sth 14 (fun hb=>hop_fa fd_47_1 rfl) rfl rfl rfl rfl rfl ?_
 | refine stg 14 (fun hb=>hop_fa_fp fd_47_1 rfl (by first | exact Nat.le_of_ble_eq_true rfl | (simp at hb;first | omega | (dsimp only;omega) | (simp <;> omega)) | omega | (dsimp only;omega))) rfl rfl rfl rfl rfl ?_
 | refine sth 14 (fun hb=>hop_fa_fp fd_47_1 rfl (by first | exact Nat.le_of_ble_eq_true rfl | (simp at hb;first | omega | (dsimp only;omega) | (simp <;> omega)) | omega | (dsimp only;omega))) rfl rfl rfl rfl rfl ?_
 first
 | refine hq_g 16 9 14 true _ (fun hb=>hol_load ty_45 rfl (by first | exact Nat.le_of_ble_eq_true rfl | (simp at hb;first | omega | (dsimp only;omega) | (simp <;> omega)) | omega | (dsimp only;omega)) (by first | exact Nat.le_of_ble_eq_true rfl | (simp at hb;first | omega | (dsimp only;omega) | (simp <;> omega)) | omega | (dsimp only;omega)) (fun h=>(by first | rfl | cases h))) rfl rfl rfl rfl (pre1 rfl) rfl rfl rfl ?_
 | refine hq_g2 16 9 14 _ _ true _ (fun hb=>hol_load ty_45 rfl (by first | exact Nat.le_of_ble_eq_true rfl | (simp at hb;first | omega | (dsimp only;omega) | (simp <;> omega)) | omega | (dsimp only;omega)) (by first | exact Nat.le_of_ble_eq_true rfl | (simp at hb;first | omega | (dsimp only;omega) | (simp <;> omega)) | omega | (dsimp only;omega)) (fun h=>(by first | rfl | cases h))) rfl rfl rfl rfl (pre1 rfl) rfl rfl rfl ?_
 | refine stg 14 (fun hb=>hop_load_fp ty_45 rfl (by first | exact Nat.le_of_ble_eq_true rfl | (simp at hb;first | omega | (dsimp only;omega) | (simp <;> omega)) | omega | (dsimp only;omega)) (fun h=>(by first | rfl | cases h))) rfl rfl rfl rfl rfl ?_
 | refine sth 14 (fun hb=>hop_load_fp ty_45 rfl (by first | exact Nat.le_of_ble_eq_true rfl | (simp at hb;first | omega | (dsimp only;omega) | (simp <;> omega)) | omega | (dsimp only;omega)) (fun h=>(by first | rfl | cases h))) rfl rfl rfl rfl rfl ?_
 first
 | refine stg 14 (fun hb=>hop_move rfl) rfl rfl rfl rfl rfl ?_
 | refine sth 14 (fun hb=>hop_move rfl) rfl rfl rfl rfl rfl ?_
 first
 | refine stg 14 (fun hb=>hop_ia_sl el_45 rfl rfl (by first | exact Nat.le_of_ble_eq_true rfl | (simp at hb;first | omega | (dsimp only;omega) | (simp <;> omega)) | omega | (dsimp only;omega)) (by first | exact Nat.le_of_ble_eq_true rfl | (simp at hb;first | omega | (dsimp only;omega) | (simp <;> omega)) | omega | (dsimp only;omega)) (by first | exact Nat.le_of_ble_eq_true rfl | (simp at hb;first | omega | (dsimp only;omega) | (simp <;> omega)) | omega | (dsimp only;omega))) rfl rfl rfl rfl rfl ?_
 | refine sth 14 (fun hb=>hop_ia_sl el_45 rfl rfl (by first | exact Nat.le_of_ble_eq_true rfl | (simp at hb;first | omega | (dsimp only;omega) | (simp <;> omega)) | omega | (dsimp only;omega)) (by first | exact Nat.le_of_ble_eq_true rfl | (simp at hb;first | omega | (dsimp only;omega) | (simp <;> omega)) | omega | (dsimp only;omega)) (by first | exact Nat.le_of_ble_eq_true rfl | (simp at hb;first | omega | (dsimp only;omega) | (simp <;> omega)) | omega | (dsimp only;omega))) rfl rfl rfl rfl rfl ?_
 | refine hq_g 18 9 14 true _ (fun hb=>hol_ia_os el_45 rfl rfl (by first | exact Nat.le_of_ble_eq_true rfl | (simp at hb;first | omega | (dsimp only;omega) | (simp <;> omega)) | omega | (dsimp only;omega)) (by first | exact Nat.le_of_ble_eq_true rfl | (simp at hb;first | omega | (dsimp only;omega) | (simp <;> omega)) | omega | (dsimp only;omega))) rfl rfl rfl rfl (pre1 rfl) rfl rfl rfl ?_
 | refine hq_g2 18 9 14 _ _ true _ (fun hb=>hol_ia_os el_45 rfl rfl (by first | exact Nat.le_of_ble_eq_true rfl | (simp at hb;first | omega | (dsimp only;omega) | (simp <;> omega)) | omega | (dsimp only;omega)) (by first | exact Nat.le_of_ble_eq_true rfl | (simp at hb;first | omega | (dsimp only;omega) | (simp <;> omega)) | omega | (dsimp only;omega))) rfl rfl rfl rfl (pre1 rfl) rfl rfl rfl ?_
 first
 | refine hq_g 19 9 14 true _ (fun hb=>HOp.val (v':=intV (ofsV L mir f.toNat)) (hol_load ty_3 rfl (by first | exact Nat.le_of_ble_eq_true rfl | (simp at hb;first | omega | (dsimp only;omega) | (simp <;> omega)) | omega | (dsimp only;omega)) (by first | exact Nat.le_of_ble_eq_true rfl | (simp at hb;first | omega | (dsimp only;omega) | (simp <;> omega)) | omega | (dsimp only;omega)) (fun h=>(by first | rfl | cases h))) (rfl)) rfl rfl rfl rfl (pre1 rfl) rfl rfl rfl ?_
 | refine hq_g2 19 9 14 _ _ true _ (fun hb=>HOp.val (v':=intV (ofsV L mir f.toNat)) (hol_load ty_3 rfl (by first | exact Nat.le_of_ble_eq_true rfl | (simp at hb;first | omega | (dsimp only;omega) | (simp <;> omega)) | omega | (dsimp only;omega)) (by first | exact Nat.le_of_ble_eq_true rfl | (simp at hb;first | omega | (dsimp only;omega) | (simp <;> omega)) | omega | (dsimp only;omega)) (fun h=>(by first | rfl | cases h))) (rfl)) rfl rfl rfl rfl (pre1 rfl) rfl rfl rfl ?_
 | refine stg 14 (fun hb=>HOp.val (v':=intV (ofsV L mir f.toNat)) (hop_load_fp ty_3 rfl (by first | exact Nat.le_of_ble_eq_true rfl | (simp at hb;first | omega | (dsimp only;omega) | (simp <;> omega)) | omega | (dsimp only;omega)) (fun h=>(by first | rfl | cases h))) (rfl)) rfl rfl rfl rfl rfl ?_
 | refine sth 14 (fun hb=>HOp.val (v':=intV (ofsV L mir f.toNat)) (hop_load_fp ty_3 rfl (by first | exact Nat.le_of_ble_eq_true rfl | (simp at hb;first | omega | (dsimp only;omega) | (simp <;> omega)) | omega | (dsimp only;omega)) (fun h=>(by first | rfl | cases h))) (rfl)) rfl rfl rfl rfl rfl ?_
 first
 | refine stg 14 (fun hb=>hop_lss rfl rfl) rfl rfl rfl rfl rfl ?_
 | refine sth 14 (fun hb=>hop_lss rfl rfl) rfl rfl rfl rfl rfl ?_
 first
 | refine hq_p 21 (hstep_and _ _ rfl rfl rfl) rfl rfl rfl ?_
 | refine hq_p 21 (hstep_or _ _ rfl rfl rfl) rfl rfl rfl ?_
 | refine hq_p 21 (hstep_ite _ _ _ rfl rfl rfl) rfl rfl rfl ?_
 | refine hq_p 21 (hstep_pick _ _ _ _ rfl rfl rfl (fun _=>.refl _) (fun _=>.refl _)) rfl rfl rfl ?_
 refine sa ?_
 refine nu ?_
 refine h2 _<|hw_ret ?_
 refine hq_ret1 rfl (rval_tmp rfl) [] rfl pre0 ?_
 exact .imm _
theorem add24_h (L:List (List Rg)) (mir mir':List (Int×Int)) (hL:L.length < 5000) (hok:MirOk L.length mir) (m:List Rg) (hm:rightM m=true) (f:Int) (hf:(f=-1∧mir'=mir)∨(freeV L mir f=true∧mir'=mirS mir f L.length)):HPure Try.prog 22 [rt24 L mir,rgsV m,intV f] (t2 (rt24 (L++[m]) mir') (intV 0)):=by
 refine hpure_of Try.func22 rfl kr _ _ _ rfl 43 rfl rfl (fun w F=>?_)
 refine srg fun N h1=>?_
 refine hm_1 3 (hop_box (id:=3) (sz:=2) rfl rfl rfl omx omx) rfl rfl pre0 rfl rfl (c':=1) rfl ?_
 refine hm_1 6 (hop_alloc (id:=6) (sz:=2) zc_47 rfl rfl omx omx) rfl rfl pre0 rfl rfl (c':=2) rfl ?_
 refine sa<|snl h1<|hw_seq fun Nh2 h2=>srg fun N h3=>sm ?_
 refine s0 (hop_call0 (xs:=[_]) (right23_h m) ⟨rfl,trivial⟩ ⟨fe,trivial⟩) ?_
 refine s0 (hop_not rfl) ?_
 refine snl h3 ?_
 refine wc (fun hc0=>?_) (fun hc0=>?_)
 ·have hr0:=hc0;(try simp only [hcs,Int.reduceToNat] at hc0)
  exfalso;rw [hm] at hr0;simp at hr0
 have hr0:=hc0;(try simp only [hcs,Int.reduceToNat] at hc0)
 refine hw_skip<|h2 _<|hw_seq fun Nh4 h4=>srg fun N h5=>?_
 first
 | refine hq_ 13 (hop_fa fd_47_0 rfl) rfl rfl pre0 rfl rfl ?_
 | refine hq_ 13 (hop_fa_fp fd_47_0 rfl (by first | exact Nat.le_of_ble_eq_true rfl | omega | (dsimp only;omega) | (simp <;> omega))) rfl rfl pre0 rfl rfl ?_
 first
 | refine hq_ 14 (hol_load ty_41 rfl (by first | exact Nat.le_of_ble_eq_true rfl | omega | (dsimp only;omega) | (simp <;> omega)) (by first | exact Nat.le_of_ble_eq_true rfl | omega | (dsimp only;omega) | (simp <;> omega)) (fun h=>(by first | rfl | cases h))) rfl rfl (pre1 rfl) rfl rfl ?_
 | refine hq_ 14 (hop_load_fp ty_41 rfl (by first | exact Nat.le_of_ble_eq_true rfl | omega | (dsimp only;omega) | (simp <;> omega)) (fun h=>(by first | rfl | cases h))) rfl rfl pre0 rfl rfl ?_
 first
 | refine hq_ 15 (hop_len_sl (T:=41) rfl (elOf_spec el_41).1 rfl) rfl rfl pre0 rfl rfl ?_
 | refine hq_ 15 (hop_len_os (T:=41) rfl (elOf_spec el_41).1 rfl) rfl rfl pre0 rfl rfl ?_
 | refine hq_ 15 (hop_len_nil (T:=41) rfl (elOf_spec el_41).1 rfl) rfl rfl pre0 rfl rfl ?_
 refine s0 (hop_geq rfl rfl) ?_
 refine snl h5 ?_
 refine wc (fun hc1=>?_) (fun hc1=>?_)
 ·have hr1:=hc1;(try simp only [hcs,Int.reduceToNat] at hc1)
  exfalso;omega
 have hr1:=hc1;(try simp only [hcs,Int.reduceToNat] at hc1)
 refine hw_skip<|h4 _<|hw_seq fun Nh6 h6=>hd_start ?_
 refine hd_1 18 (hop_buildSlice (id:=18) (hs:=[]) ei_41 omx rfl omx trivial) rfl rfl pre0 rfl rfl (k':=1) rfl ?_
 first
 | refine hd_q 19 (hop_fa fd_47_0 rfl) rfl rfl pre0 rfl rfl (k':=2) rfl ?_
 | refine hd_q 19 (hop_fa_fp fd_47_0 rfl (by first | exact Nat.le_of_ble_eq_true rfl | omega | (dsimp only;omega) | (simp <;> omega))) rfl rfl pre0 rfl rfl (k':=2) rfl ?_
 first
 | refine hd_q 20 (hol_load ty_41 rfl (by first | exact Nat.le_of_ble_eq_true rfl | omega | (dsimp only;omega) | (simp <;> omega)) (by first | exact Nat.le_of_ble_eq_true rfl | omega | (dsimp only;omega) | (simp <;> omega)) (fun h=>(by first | rfl | cases h))) rfl rfl (pre1 rfl) rfl rfl (k':=3) rfl ?_
 | refine hd_q 20 (hop_load_fp ty_41 rfl (by first | exact Nat.le_of_ble_eq_true rfl | omega | (dsimp only;omega) | (simp <;> omega)) (fun h=>(by first | rfl | cases h))) rfl rfl pre0 rfl rfl (k':=3) rfl ?_
 first
 | refine hd_1 21 (hol_append ei_41 (by first | exact Nat.le_of_ble_eq_true rfl | omega | (dsimp only;omega) | (simp <;> omega)) rfl (by first | exact Nat.le_of_ble_eq_true rfl | omega | (dsimp only;omega) | (simp <;> omega)) (by first | exact Nat.le_of_ble_eq_true rfl | omega | (dsimp only;omega) | (simp <;> omega)) (srl_os0 rfl (by first | exact Nat.le_of_ble_eq_true rfl | omega | (dsimp only;omega) | (simp <;> omega))) (by first | exact Nat.le_of_ble_eq_true rfl | omega | (dsimp only;omega) | (simp <;> omega)) rfl) rfl rfl (preC rfl (pre1 rfl)) rfl rfl (k':=4) rfl ?_
 | refine hd_1 21 (hol_append ei_41 (by first | exact Nat.le_of_ble_eq_true rfl | omega | (dsimp only;omega) | (simp <;> omega)) rfl (by first | exact Nat.le_of_ble_eq_true rfl | omega | (dsimp only;omega) | (simp <;> omega)) (by first | exact Nat.le_of_ble_eq_true rfl | omega | (dsimp only;omega) | (simp <;> omega)) (srl_os rfl (by first | exact Nat.le_of_ble_eq_true rfl | omega | (dsimp only;omega) | (simp <;> omega))) (by first | exact Nat.le_of_ble_eq_true rfl | omega | (dsimp only;omega) | (simp <;> omega)) rfl) rfl rfl (preC rfl (pre1 rfl)) rfl rfl (k':=4) rfl ?_
 | refine hd_1 21 (hol_append ei_41 (by first | exact Nat.le_of_ble_eq_true rfl | omega | (dsimp only;omega) | (simp <;> omega)) rfl (by first | exact Nat.le_of_ble_eq_true rfl | omega | (dsimp only;omega) | (simp <;> omega)) (by first | exact Nat.le_of_ble_eq_true rfl | omega | (dsimp only;omega) | (simp <;> omega)) (src_sl rfl) (by first | exact Nat.le_of_ble_eq_true rfl | omega | (dsimp only;omega) | (simp <;> omega)) rfl) rfl rfl (preC rfl pre0) rfl rfl (k':=4) rfl ?_
 | refine hd_1 21 (hol_append ei_41 (by first | exact Nat.le_of_ble_eq_true rfl | omega | (dsimp only;omega) | (simp <;> omega)) rfl (by first | exact Nat.le_of_ble_eq_true rfl | omega | (dsimp only;omega) | (simp <;> omega)) (by first | exact Nat.le_of_ble_eq_true rfl | omega | (dsimp only;omega) | (simp <;> omega)) (src_nil 1 (fun _ _=>default) rfl) (by first | exact Nat.le_of_ble_eq_true rfl | omega | (dsimp only;omega) | (simp <;> omega)) rfl) rfl rfl (preC rfl pre0) rfl rfl (k':=4) rfl ?_
 refine dm 5 ?_
 refine hd_1 23 (hop_buildSlice (id:=23) (hs:=[_]) ei_41 omx rfl omx ⟨rfl,rfl,rfl,rfl,trivial⟩) rfl rfl pre0 rfl rfl (k':=6) rfl ?_
 first
 | refine hd_1 24 (hol_append ei_41 (by first | exact Nat.le_of_ble_eq_true rfl | omega | (dsimp only;omega) | (simp <;> omega)) rfl (by first | exact Nat.le_of_ble_eq_true rfl | omega | (dsimp only;omega) | (simp <;> omega)) (by first | exact Nat.le_of_ble_eq_true rfl | omega | (dsimp only;omega) | (simp <;> omega)) (srl_os0 rfl (by first | exact Nat.le_of_ble_eq_true rfl | omega | (dsimp only;omega) | (simp <;> omega))) (by first | exact Nat.le_of_ble_eq_true rfl | omega | (dsimp only;omega) | (simp <;> omega)) rfl) rfl rfl (preC rfl (pre1 rfl)) rfl rfl (k':=7) rfl ?_
 | refine hd_1 24 (hol_append ei_41 (by first | exact Nat.le_of_ble_eq_true rfl | omega | (dsimp only;omega) | (simp <;> omega)) rfl (by first | exact Nat.le_of_ble_eq_true rfl | omega | (dsimp only;omega) | (simp <;> omega)) (by first | exact Nat.le_of_ble_eq_true rfl | omega | (dsimp only;omega) | (simp <;> omega)) (srl_os rfl (by first | exact Nat.le_of_ble_eq_true rfl | omega | (dsimp only;omega) | (simp <;> omega))) (by first | exact Nat.le_of_ble_eq_true rfl | omega | (dsimp only;omega) | (simp <;> omega)) rfl) rfl rfl (preC rfl (pre1 rfl)) rfl rfl (k':=7) rfl ?_
 | refine hd_1 24 (hol_append ei_41 (by first | exact Nat.le_of_ble_eq_true rfl | omega | (dsimp only;omega) | (simp <;> omega)) rfl (by first | exact Nat.le_of_ble_eq_true rfl | omega | (dsimp only;omega) | (simp <;> omega)) (by first | exact Nat.le_of_ble_eq_true rfl | omega | (dsimp only;omega) | (simp <;> omega)) (src_sl rfl) (by first | exact Nat.le_of_ble_eq_true rfl | omega | (dsimp only;omega) | (simp <;> omega)) rfl) rfl rfl (preC rfl pre0) rfl rfl (k':=7) rfl ?_
 | refine hd_1 24 (hol_append ei_41 (by first | exact Nat.le_of_ble_eq_true rfl | omega | (dsimp only;omega) | (simp <;> omega)) rfl (by first | exact Nat.le_of_ble_eq_true rfl | omega | (dsimp only;omega) | (simp <;> omega)) (by first | exact Nat.le_of_ble_eq_true rfl | omega | (dsimp only;omega) | (simp <;> omega)) (src_nil 1 (fun _ _=>default) rfl) (by first | exact Nat.le_of_ble_eq_true rfl | omega | (dsimp only;omega) | (simp <;> omega)) rfl) rfl rfl (preC rfl pre0) rfl rfl (k':=7) rfl ?_
 refine hd_1 25 (hop_buildSlice (id:=25) (hs:=[]) ei_45 omx rfl omx trivial) rfl rfl pre0 rfl rfl (k':=8) rfl ?_
 first
 | refine hd_q 26 (hop_fa fd_47_1 rfl) rfl rfl pre0 rfl rfl (k':=9) rfl ?_
 | refine hd_q 26 (hop_fa_fp fd_47_1 rfl (by first | exact Nat.le_of_ble_eq_true rfl | omega | (dsimp only;omega) | (simp <;> omega))) rfl rfl pre0 rfl rfl (k':=9) rfl ?_
 first
 | refine hd_q 27 (hol_load ty_45 rfl (by first | exact Nat.le_of_ble_eq_true rfl | omega | (dsimp only;omega) | (simp <;> omega)) (by first | exact Nat.le_of_ble_eq_true rfl | omega | (dsimp only;omega) | (simp <;> omega)) (fun h=>(by first | rfl | cases h))) rfl rfl (pre1 rfl) rfl rfl (k':=10) rfl ?_
 | refine hd_q 27 (hop_load_fp ty_45 rfl (by first | exact Nat.le_of_ble_eq_true rfl | omega | (dsimp only;omega) | (simp <;> omega)) (fun h=>(by first | rfl | cases h))) rfl rfl pre0 rfl rfl (k':=10) rfl ?_
 first
 | refine hd_1 28 (hol_append ei_45 (by first | exact Nat.le_of_ble_eq_true rfl | omega | (dsimp only;omega) | (simp <;> omega)) rfl (by first | exact Nat.le_of_ble_eq_true rfl | omega | (dsimp only;omega) | (simp <;> omega)) (by first | exact Nat.le_of_ble_eq_true rfl | omega | (dsimp only;omega) | (simp <;> omega)) (srl_os0 rfl (by first | exact Nat.le_of_ble_eq_true rfl | omega | (dsimp only;omega) | (simp <;> omega))) (by first | exact Nat.le_of_ble_eq_true rfl | omega | (dsimp only;omega) | (simp <;> omega)) rfl) rfl rfl (preC rfl (pre1 rfl)) rfl rfl (k':=11) rfl ?_
 | refine hd_1 28 (hol_append ei_45 (by first | exact Nat.le_of_ble_eq_true rfl | omega | (dsimp only;omega) | (simp <;> omega)) rfl (by first | exact Nat.le_of_ble_eq_true rfl | omega | (dsimp only;omega) | (simp <;> omega)) (by first | exact Nat.le_of_ble_eq_true rfl | omega | (dsimp only;omega) | (simp <;> omega)) (srl_os rfl (by first | exact Nat.le_of_ble_eq_true rfl | omega | (dsimp only;omega) | (simp <;> omega))) (by first | exact Nat.le_of_ble_eq_true rfl | omega | (dsimp only;omega) | (simp <;> omega)) rfl) rfl rfl (preC rfl (pre1 rfl)) rfl rfl (k':=11) rfl ?_
 | refine hd_1 28 (hol_append ei_45 (by first | exact Nat.le_of_ble_eq_true rfl | omega | (dsimp only;omega) | (simp <;> omega)) rfl (by first | exact Nat.le_of_ble_eq_true rfl | omega | (dsimp only;omega) | (simp <;> omega)) (by first | exact Nat.le_of_ble_eq_true rfl | omega | (dsimp only;omega) | (simp <;> omega)) (src_sl rfl) (by first | exact Nat.le_of_ble_eq_true rfl | omega | (dsimp only;omega) | (simp <;> omega)) rfl) rfl rfl (preC rfl pre0) rfl rfl (k':=11) rfl ?_
 | refine hd_1 28 (hol_append ei_45 (by first | exact Nat.le_of_ble_eq_true rfl | omega | (dsimp only;omega) | (simp <;> omega)) rfl (by first | exact Nat.le_of_ble_eq_true rfl | omega | (dsimp only;omega) | (simp <;> omega)) (by first | exact Nat.le_of_ble_eq_true rfl | omega | (dsimp only;omega) | (simp <;> omega)) (src_nil 1 (fun _ _=>default) rfl) (by first | exact Nat.le_of_ble_eq_true rfl | omega | (dsimp only;omega) | (simp <;> omega)) rfl) rfl rfl (preC rfl pre0) rfl rfl (k':=11) rfl ?_
 refine dm 12 ?_
 refine hd_1 30 (hop_buildSlice (id:=30) (hs:=[_]) ei_45 omx rfl omx ⟨rfl,rfl,rfl,rfl,trivial⟩) rfl rfl pre0 rfl rfl (k':=13) rfl ?_
 first
 | refine hd_1 31 (hol_append ei_45 (by first | exact Nat.le_of_ble_eq_true rfl | omega | (dsimp only;omega) | (simp <;> omega)) rfl (by first | exact Nat.le_of_ble_eq_true rfl | omega | (dsimp only;omega) | (simp <;> omega)) (by first | exact Nat.le_of_ble_eq_true rfl | omega | (dsimp only;omega) | (simp <;> omega)) (srl_os0 rfl (by first | exact Nat.le_of_ble_eq_true rfl | omega | (dsimp only;omega) | (simp <;> omega))) (by first | exact Nat.le_of_ble_eq_true rfl | omega | (dsimp only;omega) | (simp <;> omega)) rfl) rfl rfl (preC rfl (pre1 rfl)) rfl rfl (k':=14) rfl ?_
 | refine hd_1 31 (hol_append ei_45 (by first | exact Nat.le_of_ble_eq_true rfl | omega | (dsimp only;omega) | (simp <;> omega)) rfl (by first | exact Nat.le_of_ble_eq_true rfl | omega | (dsimp only;omega) | (simp <;> omega)) (by first | exact Nat.le_of_ble_eq_true rfl | omega | (dsimp only;omega) | (simp <;> omega)) (srl_os rfl (by first | exact Nat.le_of_ble_eq_true rfl | omega | (dsimp only;omega) | (simp <;> omega))) (by first | exact Nat.le_of_ble_eq_true rfl | omega | (dsimp only;omega) | (simp <;> omega)) rfl) rfl rfl (preC rfl (pre1 rfl)) rfl rfl (k':=14) rfl ?_
 | refine hd_1 31 (hol_append ei_45 (by first | exact Nat.le_of_ble_eq_true rfl | omega | (dsimp only;omega) | (simp <;> omega)) rfl (by first | exact Nat.le_of_ble_eq_true rfl | omega | (dsimp only;omega) | (simp <;> omega)) (by first | exact Nat.le_of_ble_eq_true rfl | omega | (dsimp only;omega) | (simp <;> omega)) (src_sl rfl) (by first | exact Nat.le_of_ble_eq_true rfl | omega | (dsimp only;omega) | (simp <;> omega)) rfl) rfl rfl (preC rfl pre0) rfl rfl (k':=14) rfl ?_
 | refine hd_1 31 (hol_append ei_45 (by first | exact Nat.le_of_ble_eq_true rfl | omega | (dsimp only;omega) | (simp <;> omega)) rfl (by first | exact Nat.le_of_ble_eq_true rfl | omega | (dsimp only;omega) | (simp <;> omega)) (by first | exact Nat.le_of_ble_eq_true rfl | omega | (dsimp only;omega) | (simp <;> omega)) (src_nil 1 (fun _ _=>default) rfl) (by first | exact Nat.le_of_ble_eq_true rfl | omega | (dsimp only;omega) | (simp <;> omega)) rfl) rfl rfl (preC rfl pre0) rfl rfl (k':=14) rfl ?_
 refine d0 15 (hop_build (hs:=[(0,1,_),(1,1,_)]) st_47 rfl rfl ⟨rfl,rfl,rfl,rfl,rfl,⟨rfl,rfl,rfl,rfl,rfl,trivial⟩⟩) ?_
 refine hd_1 8 (hop_alloc (id:=8) (sz:=2) zc_47 rfl rfl omx omx) rfl rfl pre0 rfl rfl (k':=16) rfl ?_
 first
 | refine hd_s1 (hol_storeW ty_47 rfl rfl rfl rfl) rfl rfl (pre1 rfl) (k':=17) rfl ?_
 | refine hd_s1 (hol_store ty_47 rfl rfl rfl rfl (by first | exact Nat.le_of_ble_eq_true rfl | omega | (dsimp only;omega) | (simp <;> omega)) (by first | exact Nat.le_of_ble_eq_true rfl | omega | (dsimp only;omega) | (simp <;> omega)) (by first | exact Nat.le_of_ble_eq_true rfl | omega | (dsimp only;omega) | (simp <;> omega))) rfl rfl (pre1 rfl) (k':=17) rfl ?_
 refine hd_nil kr kr (c':=19) rfl ?_
 refine h6 _<|hw_seq fun Nh7 h7=>srg fun N h8=>sm ?_
 refine s0 (hop_geq rfl rfl) ?_
 refine snl h8 ?_
 refine wc (fun hc2=>?_) (fun hc2=>?_)
 ·have hr2:=hc2;(try simp only [hcs,Int.reduceToNat] at hc2)
  have hfr:freeV L mir f=true:=(by rcases hf with h | h;omega;exact h.1);have hlk:=free_lk hok hfr;obtain ⟨⟨hf0,hf1⟩,hf2⟩:=hlk
  refine hw_region ?_
  first
  | refine hq_ 35 (hop_fa fd_47_1 rfl) rfl rfl pre0 rfl rfl ?_
  | refine hq_ 35 (hop_fa_fp fd_47_1 rfl (by first | exact Nat.le_of_ble_eq_true rfl | omega | (dsimp only;omega) | (simp <;> omega))) rfl rfl pre0 rfl rfl ?_
  first
  | refine hq_ 36 (hol_load ty_45 rfl (by first | exact Nat.le_of_ble_eq_true rfl | omega | (dsimp only;omega) | (simp <;> omega)) (by first | exact Nat.le_of_ble_eq_true rfl | omega | (dsimp only;omega) | (simp <;> omega)) (fun h=>(by first | rfl | cases h))) rfl rfl (pre1 rfl) rfl rfl ?_
  | refine hq_ 36 (hop_load_fp ty_45 rfl (by first | exact Nat.le_of_ble_eq_true rfl | omega | (dsimp only;omega) | (simp <;> omega)) (fun h=>(by first | rfl | cases h))) rfl rfl pre0 rfl rfl ?_
  refine sm ?_
  first
  | refine hq_ 38 (hop_fa fd_47_0 rfl) rfl rfl pre0 rfl rfl ?_
  | refine hq_ 38 (hop_fa_fp fd_47_0 rfl (by first | exact Nat.le_of_ble_eq_true rfl | omega | (dsimp only;omega) | (simp <;> omega))) rfl rfl pre0 rfl rfl ?_
  first
  | refine hq_ 39 (hol_load ty_41 rfl (by first | exact Nat.le_of_ble_eq_true rfl | omega | (dsimp only;omega) | (simp <;> omega)) (by first | exact Nat.le_of_ble_eq_true rfl | omega | (dsimp only;omega) | (simp <;> omega)) (fun h=>(by first | rfl | cases h))) rfl rfl (pre1 rfl) rfl rfl ?_
  | refine hq_ 39 (hop_load_fp ty_41 rfl (by first | exact Nat.le_of_ble_eq_true rfl | omega | (dsimp only;omega) | (simp <;> omega)) (fun h=>(by first | rfl | cases h))) rfl rfl pre0 rfl rfl ?_
  first
  | refine hq_ 40 (hop_len_sl (T:=41) rfl (elOf_spec el_41).1 rfl) rfl rfl pre0 rfl rfl ?_
  | refine hq_ 40 (hop_len_os (T:=41) rfl (elOf_spec el_41).1 rfl) rfl rfl pre0 rfl rfl ?_
  | refine hq_ 40 (hop_len_nil (T:=41) rfl (elOf_spec el_41).1 rfl) rfl rfl pre0 rfl rfl ?_
  first
  | refine hq_ 41 (hop_ia_sl el_45 rfl rfl (by first | exact Nat.le_of_ble_eq_true rfl | omega | (dsimp only;omega) | (simp <;> omega)) (by first | exact Nat.le_of_ble_eq_true rfl | omega | (dsimp only;omega) | (simp <;> omega)) (by first | exact Nat.le_of_ble_eq_true rfl | omega | (dsimp only;omega) | (simp <;> omega))) rfl rfl pre0 rfl rfl ?_
  | refine hq_ 41 (hol_ia_os el_45 rfl rfl (by first | exact Nat.le_of_ble_eq_true rfl | omega | (dsimp only;omega) | (simp <;> omega)) (by first | exact Nat.le_of_ble_eq_true rfl | omega | (dsimp only;omega) | (simp <;> omega))) rfl rfl (pre1 rfl) rfl rfl ?_
  first
  | refine hm_s1 (hol_storeW ty_3 rfl rfl rfl rfl) rfl rfl (pre1 rfl) (c':=20) rfl ?_
  | refine hm_s1 (hol_store ty_3 rfl rfl rfl rfl (by first | exact Nat.le_of_ble_eq_true rfl | omega | (dsimp only;omega) | (simp <;> omega)) (by first | exact Nat.le_of_ble_eq_true rfl | omega | (dsimp only;omega) | (simp <;> omega)) (by first | exact Nat.le_of_ble_eq_true rfl | omega | (dsimp only;omega) | (simp <;> omega))) rfl rfl (pre1 rfl) (c':=20) rfl ?_
  refine snl h7<|srg fun N h9=>?_
  first
  | refine hq_ 42 (hol_load ty_47 rfl (by first | exact Nat.le_of_ble_eq_true rfl | omega | (dsimp only;omega) | (simp <;> omega)) (by first | exact Nat.le_of_ble_eq_true rfl | omega | (dsimp only;omega) | (simp <;> omega)) (fun h=>(by first | rfl | cases h))) rfl rfl (pre1 rfl) rfl rfl ?_
  | refine hq_ 42 (hop_load_fp ty_47 rfl (by first | exact Nat.le_of_ble_eq_true rfl | omega | (dsimp only;omega) | (simp <;> omega)) (fun h=>(by first | rfl | cases h))) rfl rfl pre0 rfl rfl ?_
  first
  | refine hm_s1 (hol_storeW ty_47 rfl rfl rfl rfl) rfl rfl (pre1 rfl) (c':=21) rfl ?_
  | refine hm_s1 (hol_store ty_47 rfl rfl rfl rfl (by first | exact Nat.le_of_ble_eq_true rfl | omega | (dsimp only;omega) | (simp <;> omega)) (by first | exact Nat.le_of_ble_eq_true rfl | omega | (dsimp only;omega) | (simp <;> omega)) (by first | exact Nat.le_of_ble_eq_true rfl | omega | (dsimp only;omega) | (simp <;> omega))) rfl rfl (pre1 rfl) (c':=21) rfl ?_
  refine sa<|snl h9<|hw_ret ?_
  refine hq_ret2 rfl (rvl_cell rfl rfl ty_47 rqc rfl rfl) (rval_tmp rfl) [(18,_),(25,_)] rfl (preC rfl (preC rfl pre0)) ?_
  obtain rfl:mir'=mirS mir f L.length:=(by rcases hf with h | h;omega;exact h.2);exact fz_t2 (fz_rtS rfl rfl (List.mem_cons_self ..) (List.mem_cons_of_mem _ (List.mem_cons_self ..)) rfl rfl rfl rfl (by simp) (by simp) (Nat.le_refl _) (Nat.le_refl _) (fun i hi=>fz_mapsS i hi) (fun i hi=>by have hi:i < L.length+1:=(by simpa using hi);show Fz _ (upd _ (0+f.toNat) 0 1 _ i 0) _;rw [updA,ofs_cell i hi,ofs_put hok ⟨⟨hf0,hf1⟩,hf2⟩ i hi];by_cases e:i=f.toNat;(rw [if_pos om,if_pos e];exact .imm _);(rw [if_neg om,if_neg e];exact .imm _))) (.imm _)
 have hr2:=hc2;(try simp only [hcs,Int.reduceToNat] at hc2)
 refine hw_skip<|h7 _<|srg fun N h10=>?_
 first
 | refine hq_ 42 (hol_load ty_47 rfl (by first | exact Nat.le_of_ble_eq_true rfl | omega | (dsimp only;omega) | (simp <;> omega)) (by first | exact Nat.le_of_ble_eq_true rfl | omega | (dsimp only;omega) | (simp <;> omega)) (fun h=>(by first | rfl | cases h))) rfl rfl (pre1 rfl) rfl rfl ?_
 | refine hq_ 42 (hop_load_fp ty_47 rfl (by first | exact Nat.le_of_ble_eq_true rfl | omega | (dsimp only;omega) | (simp <;> omega)) (fun h=>(by first | rfl | cases h))) rfl rfl pre0 rfl rfl ?_
 first
 | refine hm_s1 (hol_storeW ty_47 rfl rfl rfl rfl) rfl rfl (pre1 rfl) (c':=20) rfl ?_
 | refine hm_s1 (hol_store ty_47 rfl rfl rfl rfl (by first | exact Nat.le_of_ble_eq_true rfl | omega | (dsimp only;omega) | (simp <;> omega)) (by first | exact Nat.le_of_ble_eq_true rfl | omega | (dsimp only;omega) | (simp <;> omega)) (by first | exact Nat.le_of_ble_eq_true rfl | omega | (dsimp only;omega) | (simp <;> omega))) rfl rfl (pre1 rfl) (c':=20) rfl ?_
 refine sa<|snl h10<|hw_ret ?_
 refine hq_ret2 rfl (rvl_cell rfl rfl ty_47 rqc rfl rfl) (rval_tmp rfl) [(18,_),(25,_)] rfl (preC rfl (preC rfl pre0)) ?_
 obtain ⟨rfl,rfl⟩:f=-1∧mir'=mir:=(by rcases hf with h | h;exact h;exact absurd (free_lk hok h.1).1.1 om);exact fz_t2 (fz_rtS rfl rfl (List.mem_cons_self ..) (List.mem_cons_of_mem _ (List.mem_cons_self ..)) rfl rfl rfl rfl (by simp) (by simp) (Nat.le_refl _) (Nat.le_refl _) (fun i hi=>fz_mapsS i hi) (fun i hi=>by have hi:i < L.length+1:=(by simpa using hi);show Fz _ (cat _ _ _ i 0) _;rw [ofs_cell i hi,ofs_more hok i hi];exact .imm _)) (.imm _)
end Go.Proofs.Ytkcfhciffdnmmaa
