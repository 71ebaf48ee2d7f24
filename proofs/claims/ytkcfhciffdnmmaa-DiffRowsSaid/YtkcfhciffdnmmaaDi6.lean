/-
  diff: tokens compared, the slide, the better of two ways.
-/
import Derived.Test.YtkcfhciffdnmmaaDiffV
import Derived.Test.YtkcfhciffdnmmaaHk
namespace Go.Proofs.Ytkcfhciffdnmmaa
set_option linter.unusedSimpArgs false
set_option linter.unusedVariables false
set_option maxRecDepth 100000
set_option maxHeartbeats 1000000
open Go.RowKit
theorem tok_inv {w:World} {E:Env} {v:Value} {x:Tok} {f:Nat→HV} (hf:∀ j,j < 12→f j=tokF x j) (h:Rep w E v (.agg 12 f)):v=.agg x.cells.toArray:=by
  cases h with
  | agg cs _ _ vs hn hv h =>
    congr 1
    apply Array.ext_getElem?
    intro i
    by_cases hi:i < 12
    · have h1:=h i hi
      rw [hf i hi,tokF_imm x i hi] at h1
      rw [(hv i hi).1,h1.imm_inv]
      have hl:x.cells.length=12:=Tok.cells_length x
      simp [hl,hi]
    · rw [Array.getElem?_eq_none (by omega),Array.getElem?_eq_none (by simp [Tok.cells_length];omega)]
section
variable {ov:Nat→Option HV} {g:Nat} {d:Option Tmp} {ty:TypeId} {pos:String} {af:Array Edge} {gd:Option (Nat×Bool)} {T yT:TypeId} {x y:Operand}
theorem hop_eql_tok (s t:Tok) {f1 f2:Nat→HV} (hT:T=71) (h1:ovl ov x=some (.agg 12 f1)) (h2:ovl ov y=some (.agg 12 f2)) (hf1:∀ j,j < 12→f1 j=tokF s j) (hf2:∀ j,j < 12→f2 j=tokF t j) :
  HOp Try.prog ⟨d,.binOp .eql T x y yT,ty,pos,af,gd⟩ ov g [] (.imm (.bool (decide (s=t)))) [] :=
 hop_pure fun w E ρ hr=>by
  have hG:Try.prog.eqGuardType Try.prog.depth 71=false:=by kernel_rfl
  subst hT
  have e1:=tok_inv hf1 (hr x _ (by simp [Op.operands]) h1)
  have e2:=tok_inv hf2 (hr y _ (by simp [Op.operands]) h2)
  refine ⟨_,?_,.imm _⟩
  have hg:(eqGuard .eql 71 x y (.agg s.cells.toArray) (.agg t.cells.toArray)).run Try.prog w=.ok () w:=by
   simp [eqGuard,program,Sem.run,hG,Sem.run_bind]
  simp only [execOp,e1,e2,Sem.run_bind,hg,Result.andThen_ok,run_eql_tok,Sem.run_pure]
end
def samV (a b:List Tok) (i k:Nat):Bool:=decide (i < a.length)&&(decide (k < b.length)&&decide (a.getD i tok0=b.getD k tok0))
theorem samV_lt {a b:List Tok} {i k:Nat} (h:samV a b i k=true):i < a.length∧k < b.length:=by
 unfold samV at h;simp only [Bool.and_eq_true,decide_eq_true_eq] at h;exact ⟨h.1,h.2.1⟩
theorem samV_iff {a b:List Tok} {i k:Nat}:samV a b i k=true↔i < a.length∧k < b.length∧a.getD i tok0=b.getD k tok0:=by
 unfold samV;simp only [Bool.and_eq_true,decide_eq_true_eq]
def finF (a b:List Tok) (fr:HV):Nat→Nat→HV:=fun _ j=>match j with | 0=>toksV a | 1=>toksV b | _=>fr
@[reducible] def finO (g:Nat) (a b:List Tok) (fr:HV):HObj:=⟨g,1,3,77,0,finF a b fr⟩
@[reducible] def rowV (n:Nat) (r:Nat→Nat):HV:=.sl 1 n (fun j _=>intV (r j:Int))
@[reducible] def rowsF (R:Nat→Nat→Nat):Nat→Nat→HV:=fun i _=>rowV (2 * i+3) (R i)
@[reducible] def rowsO (g D:Nat) (R:Nat→Nat→Nat):HObj:=⟨g,D,1,45,0,rowsF R⟩
theorem fz_rows {sh:List (Nat×HObj)} (R:Nat→Nat→Nat) (i j:Nat):Fz sh (rowsF R i j) (rowsF R i j):=.sl _ _ _ _ fun _ _ _ _=>.imm _
theorem okz_fin {kp sh:List (Nat×HObj)} {g g2 n:Nat} {a b:List Tok} {o2:HObj} (h2:hget kp 9002=some o2) (e2:o2.g=g2):OKz kp sh (finO g a b (.os 9002 g2 0 n)) (finO g a b (.os 9002 g2 0 n)):=.of fun i j hi hj=>by
 match j,hj with
 | 0,_=>exact .fz _ _ (fz_toks _)
 | 1,_=>exact .fz _ _ (fz_toks _)
 | 2,_=>exact .os _ _ _ _ _ h2 e2
theorem okz_rows {kp sh:List (Nat×HObj)} {g D:Nat} {R:Nat→Nat→Nat}:OKz kp sh (rowsO g D R) (rowsO g D R):=.of fun i j hi hj=>.fz _ _ (fz_rows _ _ _)
theorem slide_h (a b:List Tok) (ha:a.length≤1000) (hb:b.length≤1000) (x0 y0:Nat) (k:Int) (hk:(x0:Int) - k=y0) (hx0:x0≤10000) (hy0:y0≤10000) (g1 g2 D:Nat) (R:Nat→Nat→Nat) :
  HFunD Try.prog 57 [.pt 9001 g1 0 0,intV (x0:Int),intV k] [(9001,finO g1 a b (.os 9002 g2 0 D)),(9002,rowsO g2 D R)] (intV (sld (samV a b) a.length x0 y0:Nat)) [(9001,finO g1 a b (.os 9002 g2 0 D)),(9002,rowsO g2 D R)]:=by
 intro c
 refine hfun_of Try.func57 rfl kr _ _ _ _ rfl 47 rfl rfl (fun X ok hX=>?_)
 refine srg fun N h1=>sa<|snl h1<|hw_seq fun Nh2 h2=>hw_block ?_
 refine hw_loopc (α:=Nat×Nat) (fun x c=>⟨47,[(0,.v (.pt 9001 g1 0 0)),(1,.v (intV (x.1:Int))),(2,.v (intV k))],[(9001,finO g1 a b (.os 9002 g2 0 D)),(9002,rowsO g2 D R)],c⟩) (fun x=>((x.1:Int) - k=x.2)∧x.1≤20000∧x.2≤20000∧sld (samV a b) a.length x.1 x.2=sld (samV a b) a.length x0 y0∧(x.1≤x0∨x.1≤a.length)∧(x.2≤y0∨x.2≤b.length)) (fun x=>a.length - x.1) ((x0,y0)) (by exact ⟨hk,by omega,by omega,rfl,by omega,by omega⟩) (hsub_of rfl (Nat.le_refl _) tsa hsa) (fun x c hx NhL3 hL3=>?_)
 revert hx hL3;obtain ⟨i,q⟩:=x;intro hx hL3;dsimp only at hx hL3 ⊢
 obtain ⟨hq,hi1,hq1,hs,hi2,hq2⟩:=hx
 refine hw_seq fun Nh4 h4=>hw_seq fun Nh5 h5=>hd_start ?_
 refine dm 1 ?_
 refine dm 2 ?_
 first
 | refine hd_q 9 (hop_nilcheck_pt rfl) rfl rfl pre0 rfl rfl (k':=3) rfl ?_
 | refine hd_q 9 (hop_nilcheck_fp rfl) rfl rfl pre0 rfl rfl (k':=3) rfl ?_
 first
 | refine hd_q 10 (hop_fa fd_77_0 rfl) rfl rfl pre0 rfl rfl (k':=4) rfl ?_
 | refine hd_q 10 (hop_fa_fp fd_77_0 rfl (by first | exact Nat.le_of_ble_eq_true rfl | omega | (dsimp only;omega) | (simp <;> omega))) rfl rfl pre0 rfl rfl (k':=4) rfl ?_
 first
 | refine hd_q 11 (hol_load ty_22 rfl (by first | exact Nat.le_of_ble_eq_true rfl | omega | (dsimp only;omega) | (simp <;> omega)) (by first | exact Nat.le_of_ble_eq_true rfl | omega | (dsimp only;omega) | (simp <;> omega)) (fun h=>(by first | rfl | cases h))) rfl rfl (pre1 rfl) rfl rfl (k':=5) rfl ?_
 | refine hd_q 11 (hop_load_fp ty_22 rfl (by first | exact Nat.le_of_ble_eq_true rfl | omega | (dsimp only;omega) | (simp <;> omega)) (fun h=>(by first | rfl | cases h))) rfl rfl pre0 rfl rfl (k':=5) rfl ?_
 first
 | refine hd_q 12 (hop_len_sl (T:=22) rfl (elOf_spec el_22).1 rfl) rfl rfl pre0 rfl rfl (k':=6) rfl ?_
 | refine hd_q 12 (hop_len_os (T:=22) rfl (elOf_spec el_22).1 rfl) rfl rfl pre0 rfl rfl (k':=6) rfl ?_
 | refine hd_q 12 (hop_len_nil (T:=22) rfl (elOf_spec el_22).1 rfl) rfl rfl pre0 rfl rfl (k':=6) rfl ?_
 refine d0 7 hli ?_
 refine dm 8 ?_
 refine hd_g 15 7 14 true _ (fun hb=>hop_move rfl) rfl rfl rfl rfl pre0 rfl rfl rfl (k':=9) rfl ?_
 refine hd_g 16 7 14 true _ (fun hb=>hop_move rfl) rfl rfl rfl rfl pre0 rfl rfl rfl (k':=10) rfl ?_
 first
 | refine hd_g 17 7 14 true _ (fun hb=>hop_subi rfl rfl rfl (by first | exact Nat.le_of_ble_eq_true rfl | (simp at hb;first | omega | (dsimp only;omega) | (simp <;> omega)) | omega | (dsimp only;omega)) (by first | exact Nat.le_of_ble_eq_true rfl | (simp at hb;first | omega | (dsimp only;omega) | (simp <;> omega)) | omega | (dsimp only;omega))) rfl rfl rfl rfl pre0 rfl rfl rfl (k':=11) rfl ?_
 | refine hd_g 17 7 14 true _ (fun hb=>hop_sub rfl rfl) rfl rfl rfl rfl pre0 rfl rfl rfl (k':=11) rfl ?_
 refine hd_g 18 7 14 true _ (fun hb=>hop_move rfl) rfl rfl rfl rfl pre0 rfl rfl rfl (k':=12) rfl ?_
 first
 | refine hd_g 19 7 14 true _ (fun hb=>hop_nilcheck_pt rfl) rfl rfl rfl rfl pre0 rfl rfl rfl (k':=13) rfl ?_
 | refine hd_g 19 7 14 true _ (fun hb=>hop_nilcheck_fp rfl) rfl rfl rfl rfl pre0 rfl rfl rfl (k':=13) rfl ?_
 first
 | refine hd_g 20 7 14 true _ (fun hb=>hop_fa fd_77_1 rfl) rfl rfl rfl rfl pre0 rfl rfl rfl (k':=14) rfl ?_
 | refine hd_g 20 7 14 true _ (fun hb=>hop_fa_fp fd_77_1 rfl (by first | exact Nat.le_of_ble_eq_true rfl | (simp at hb;first | omega | (dsimp only;omega) | (simp <;> omega)) | omega | (dsimp only;omega))) rfl rfl rfl rfl pre0 rfl rfl rfl (k':=14) rfl ?_
 first
 | refine hd_g 21 7 14 true _ (fun hb=>hol_load ty_22 rfl (by first | exact Nat.le_of_ble_eq_true rfl | (simp at hb;first | omega | (dsimp only;omega) | (simp <;> omega)) | omega | (dsimp only;omega)) (by first | exact Nat.le_of_ble_eq_true rfl | (simp at hb;first | omega | (dsimp only;omega) | (simp <;> omega)) | omega | (dsimp only;omega)) (fun h=>(by first | rfl | cases h))) rfl rfl rfl rfl (pre1 rfl) rfl rfl rfl (k':=15) rfl ?_
 | refine hd_g 21 7 14 true _ (fun hb=>hop_load_fp ty_22 rfl (by first | exact Nat.le_of_ble_eq_true rfl | (simp at hb;first | omega | (dsimp only;omega) | (simp <;> omega)) | omega | (dsimp only;omega)) (fun h=>(by first | rfl | cases h))) rfl rfl rfl rfl pre0 rfl rfl rfl (k':=15) rfl ?_
 first
 | refine hd_g 22 7 14 true _ (fun hb=>hop_len_sl (T:=22) rfl (elOf_spec el_22).1 rfl) rfl rfl rfl rfl pre0 rfl rfl rfl (k':=16) rfl ?_
 | refine hd_g 22 7 14 true _ (fun hb=>hop_len_os (T:=22) rfl (elOf_spec el_22).1 rfl) rfl rfl rfl rfl pre0 rfl rfl rfl (k':=16) rfl ?_
 | refine hd_g 22 7 14 true _ (fun hb=>hop_len_nil (T:=22) rfl (elOf_spec el_22).1 rfl) rfl rfl rfl rfl pre0 rfl rfl rfl (k':=16) rfl ?_
 refine hd_g 23 7 14 true _ (fun hb=>hop_lss rfl rfl) rfl rfl rfl rfl pre0 rfl rfl rfl (k':=17) rfl ?_
 first
 | refine hd_p 24 (hstep_and _ _ rfl rfl rfl) rfl rfl rfl (k':=18) rfl ?_
 | refine hd_p 24 (hstep_or _ _ rfl rfl rfl) rfl rfl rfl (k':=18) rfl ?_
 | refine hd_p 24 (hstep_pick _ _ _ _ rfl rfl rfl (fun _=>.refl _) (fun _=>.refl _)) rfl rfl rfl (k':=18) rfl ?_
 refine dm 19 ?_
 refine hd_g 26 18 25 true _ (fun hb=>hop_move rfl) rfl rfl rfl rfl pre0 rfl rfl rfl (k':=20) rfl ?_
 first
 | refine hd_g 27 18 25 true _ (fun hb=>hop_nilcheck_pt rfl) rfl rfl rfl rfl pre0 rfl rfl rfl (k':=21) rfl ?_
 | refine hd_g 27 18 25 true _ (fun hb=>hop_nilcheck_fp rfl) rfl rfl rfl rfl pre0 rfl rfl rfl (k':=21) rfl ?_
 first
 | refine hd_g 28 18 25 true _ (fun hb=>hop_fa fd_77_0 rfl) rfl rfl rfl rfl pre0 rfl rfl rfl (k':=22) rfl ?_
 | refine hd_g 28 18 25 true _ (fun hb=>hop_fa_fp fd_77_0 rfl (by first | exact Nat.le_of_ble_eq_true rfl | (simp at hb;first | omega | (dsimp only;omega) | (simp <;> omega)) | omega | (dsimp only;omega))) rfl rfl rfl rfl pre0 rfl rfl rfl (k':=22) rfl ?_
 first
 | refine hd_g 29 18 25 true _ (fun hb=>hol_load ty_22 rfl (by first | exact Nat.le_of_ble_eq_true rfl | (simp at hb;first | omega | (dsimp only;omega) | (simp <;> omega)) | omega | (dsimp only;omega)) (by first | exact Nat.le_of_ble_eq_true rfl | (simp at hb;first | omega | (dsimp only;omega) | (simp <;> omega)) | omega | (dsimp only;omega)) (fun h=>(by first | rfl | cases h))) rfl rfl rfl rfl (pre1 rfl) rfl rfl rfl (k':=23) rfl ?_
 | refine hd_g 29 18 25 true _ (fun hb=>hop_load_fp ty_22 rfl (by first | exact Nat.le_of_ble_eq_true rfl | (simp at hb;first | omega | (dsimp only;omega) | (simp <;> omega)) | omega | (dsimp only;omega)) (fun h=>(by first | rfl | cases h))) rfl rfl rfl rfl pre0 rfl rfl rfl (k':=23) rfl ?_
 refine hd_g 30 18 25 true _ (fun hb=>hop_move rfl) rfl rfl rfl rfl pre0 rfl rfl rfl (k':=24) rfl ?_
 first
 | refine hd_g 31 18 25 true _ (fun hb=>hop_ia_sl el_22 rfl rfl (by first | exact Nat.le_of_ble_eq_true rfl | (simp at hb;first | omega | (dsimp only;omega) | (simp <;> omega)) | omega | (dsimp only;omega)) (by first | exact Nat.le_of_ble_eq_true rfl | (simp at hb;first | omega | (dsimp only;omega) | (simp <;> omega)) | omega | (dsimp only;omega)) (by first | exact Nat.le_of_ble_eq_true rfl | (simp at hb;first | omega | (dsimp only;omega) | (simp <;> omega)) | omega | (dsimp only;omega))) rfl rfl rfl rfl pre0 rfl rfl rfl (k':=25) rfl ?_
 | refine hd_g 31 18 25 true _ (fun hb=>hol_ia_os el_22 rfl rfl (by first | exact Nat.le_of_ble_eq_true rfl | (simp at hb;first | omega | (dsimp only;omega) | (simp <;> omega)) | omega | (dsimp only;omega)) (by first | exact Nat.le_of_ble_eq_true rfl | (simp at hb;first | omega | (dsimp only;omega) | (simp <;> omega)) | omega | (dsimp only;omega))) rfl rfl rfl rfl (pre1 rfl) rfl rfl rfl (k':=25) rfl ?_
 first
 | refine hd_g 32 18 25 true _ (fun hb=>hol_load ty_71 rfl (by first | exact Nat.le_of_ble_eq_true rfl | (simp at hb;first | omega | (dsimp only;omega) | (simp <;> omega)) | omega | (dsimp only;omega)) (by first | exact Nat.le_of_ble_eq_true rfl | (simp at hb;first | omega | (dsimp only;omega) | (simp <;> omega)) | omega | (dsimp only;omega)) (fun h=>(by first | rfl | cases h))) rfl rfl rfl rfl (pre1 rfl) rfl rfl rfl (k':=26) rfl ?_
 | refine hd_g 32 18 25 true _ (fun hb=>hop_load_fp ty_71 rfl (by first | exact Nat.le_of_ble_eq_true rfl | (simp at hb;first | omega | (dsimp only;omega) | (simp <;> omega)) | omega | (dsimp only;omega)) (fun h=>(by first | rfl | cases h))) rfl rfl rfl rfl pre0 rfl rfl rfl (k':=26) rfl ?_
 refine hd_g 33 18 25 true _ (fun hb=>hop_move rfl) rfl rfl rfl rfl pre0 rfl rfl rfl (k':=27) rfl ?_
 first
 | refine hd_g 34 18 25 true _ (fun hb=>hop_nilcheck_pt rfl) rfl rfl rfl rfl pre0 rfl rfl rfl (k':=28) rfl ?_
 | refine hd_g 34 18 25 true _ (fun hb=>hop_nilcheck_fp rfl) rfl rfl rfl rfl pre0 rfl rfl rfl (k':=28) rfl ?_
 first
 | refine hd_g 35 18 25 true _ (fun hb=>hop_fa fd_77_1 rfl) rfl rfl rfl rfl pre0 rfl rfl rfl (k':=29) rfl ?_
 | refine hd_g 35 18 25 true _ (fun hb=>hop_fa_fp fd_77_1 rfl (by first | exact Nat.le_of_ble_eq_true rfl | (simp at hb;first | omega | (dsimp only;omega) | (simp <;> omega)) | omega | (dsimp only;omega))) rfl rfl rfl rfl pre0 rfl rfl rfl (k':=29) rfl ?_
 first
 | refine hd_g 36 18 25 true _ (fun hb=>hol_load ty_22 rfl (by first | exact Nat.le_of_ble_eq_true rfl | (simp at hb;first | omega | (dsimp only;omega) | (simp <;> omega)) | omega | (dsimp only;omega)) (by first | exact Nat.le_of_ble_eq_true rfl | (simp at hb;first | omega | (dsimp only;omega) | (simp <;> omega)) | omega | (dsimp only;omega)) (fun h=>(by first | rfl | cases h))) rfl rfl rfl rfl (pre1 rfl) rfl rfl rfl (k':=30) rfl ?_
 | refine hd_g 36 18 25 true _ (fun hb=>hop_load_fp ty_22 rfl (by first | exact Nat.le_of_ble_eq_true rfl | (simp at hb;first | omega | (dsimp only;omega) | (simp <;> omega)) | omega | (dsimp only;omega)) (fun h=>(by first | rfl | cases h))) rfl rfl rfl rfl pre0 rfl rfl rfl (k':=30) rfl ?_
 refine hd_g 37 18 25 true _ (fun hb=>hop_move rfl) rfl rfl rfl rfl pre0 rfl rfl rfl (k':=31) rfl ?_
 refine hd_g 38 18 25 true _ (fun hb=>hop_move rfl) rfl rfl rfl rfl pre0 rfl rfl rfl (k':=32) rfl ?_
 first
 | refine hd_g 39 18 25 true _ (fun hb=>hop_subi rfl rfl rfl (by first | exact Nat.le_of_ble_eq_true rfl | (simp at hb;first | omega | (dsimp only;omega) | (simp <;> omega)) | omega | (dsimp only;omega)) (by first | exact Nat.le_of_ble_eq_true rfl | (simp at hb;first | omega | (dsimp only;omega) | (simp <;> omega)) | omega | (dsimp only;omega))) rfl rfl rfl rfl pre0 rfl rfl rfl (k':=33) rfl ?_
 | refine hd_g 39 18 25 true _ (fun hb=>hop_sub rfl rfl) rfl rfl rfl rfl pre0 rfl rfl rfl (k':=33) rfl ?_
 first
 | refine hd_g 40 18 25 true _ (fun hb=>hop_ia_sl el_22 rfl rfl (by first | exact Nat.le_of_ble_eq_true rfl | (simp at hb;first | omega | (dsimp only;omega) | (simp <;> omega)) | omega | (dsimp only;omega)) (by first | exact Nat.le_of_ble_eq_true rfl | (simp at hb;first | omega | (dsimp only;omega) | (simp <;> omega)) | omega | (dsimp only;omega)) (by first | exact Nat.le_of_ble_eq_true rfl | (simp at hb;first | omega | (dsimp only;omega) | (simp <;> omega)) | omega | (dsimp only;omega))) rfl rfl rfl rfl pre0 rfl rfl rfl (k':=34) rfl ?_
 | refine hd_g 40 18 25 true _ (fun hb=>hol_ia_os el_22 rfl rfl (by first | exact Nat.le_of_ble_eq_true rfl | (simp at hb;first | omega | (dsimp only;omega) | (simp <;> omega)) | omega | (dsimp only;omega)) (by first | exact Nat.le_of_ble_eq_true rfl | (simp at hb;first | omega | (dsimp only;omega) | (simp <;> omega)) | omega | (dsimp only;omega))) rfl rfl rfl rfl (pre1 rfl) rfl rfl rfl (k':=34) rfl ?_
 first
 | refine hd_g 41 18 25 true _ (fun hb=>hol_load ty_71 rfl (by first | exact Nat.le_of_ble_eq_true rfl | (simp at hb;first | omega | (dsimp only;omega) | (simp <;> omega)) | omega | (dsimp only;omega)) (by first | exact Nat.le_of_ble_eq_true rfl | (simp at hb;first | omega | (dsimp only;omega) | (simp <;> omega)) | omega | (dsimp only;omega)) (fun h=>(by first | rfl | cases h))) rfl rfl rfl rfl (pre1 rfl) rfl rfl rfl (k':=35) rfl ?_
 | refine hd_g 41 18 25 true _ (fun hb=>hop_load_fp ty_71 rfl (by first | exact Nat.le_of_ble_eq_true rfl | (simp at hb;first | omega | (dsimp only;omega) | (simp <;> omega)) | omega | (dsimp only;omega)) (fun h=>(by first | rfl | cases h))) rfl rfl rfl rfl pre0 rfl rfl rfl (k':=35) rfl ?_
 refine hd_g 42 18 25 true _ (fun hb=>hop_eql_tok _ _ rfl rfl rfl (fun _ _=>rfl) (fun _ _=>rfl)) rfl rfl rfl rfl pre0 rfl rfl rfl (k':=36) rfl ?_
 first
 | refine hd_p 43 (hstep_and _ _ rfl rfl rfl) rfl rfl rfl (k':=37) rfl ?_
 | refine hd_p 43 (hstep_or _ _ rfl rfl rfl) rfl rfl rfl (k':=37) rfl ?_
 | refine hd_p 43 (hstep_pick _ _ _ _ rfl rfl rfl (fun _=>.refl _) (fun _=>.refl _)) rfl rfl rfl (k':=37) rfl ?_
 refine hd_nil kr kr (c':=c+37) rfl ?_
 refine h5 _ ?_
 refine wc (fun hc0=>?_) (fun hc0=>?_)
 ·have hr0:=hc0;(try simp only [hcs,Int.reduceToNat] at hc0)
  have hs1:samV a b i q=true:=samV_iff.2 ⟨by omega,by omega,by have h9:=hc0.2;rw [show ((i:Int) - k).toNat=q by omega] at h9;exact h9⟩;have hlt:=samV_lt hs1
  refine hw_skip<|h4 _<|hw_block<|hw_region<|sm ?_
  first
  | refine hq_ 45 (hop_addi rfl rfl rfl (by first | exact Nat.le_of_ble_eq_true rfl | omega | (dsimp only;omega) | (simp <;> omega)) (by first | exact Nat.le_of_ble_eq_true rfl | omega | (dsimp only;omega) | (simp <;> omega))) rfl rfl pre0 rfl rfl ?_
  | refine hq_ 45 (hop_add rfl rfl) rfl rfl pre0 rfl rfl ?_
  refine sa<|hseq_nil<|hq_block ?_
  exact hL3 ((i+1,q+1)) _ _ (by (try dsimp only);exact ⟨by omega,by omega,by omega,by rw [←hs];exact (sld_yes _ _ _ (fun _ _=>samV_lt) hs1).symm,by omega,by omega⟩) (by (try dsimp only);omega) (hsub_of rfl (Nat.le_refl _) tsa hsa)
 have hr0:=hc0;(try simp only [hcs,Int.reduceToNat] at hc0)
 have hs1:¬ samV a b i q=true:=fun h9=>(by obtain ⟨h1,h2,h3⟩:=samV_iff.1 h9;rw [show ((i:Int) - k).toNat=q by omega] at hc0;simp only [Bool.and_eq_false_iff,decide_eq_false_iff_not] at hc0;rcases hc0 with (h | h) | h <;> first | exact h h3 | omega);obtain rfl:i=sld (samV a b) a.length x0 y0:=(by rw [←hs,sld_no _ _ hs1])
 refine hw_exit ?_
 refine hq_then_exit<|hq_then_exit<|hq_block_here<|h2 _<|srg fun N h6=>sm<|sa<|snl h6<|hw_ret ?_
 refine hf_retR1 ok hX RetS.one rfl (rval_tmp rfl) [] rfl pre0 (()) (trivial) (by rfl) (by rfl) (kza) ?_
 exact ⟨⟨_,rfl,okz_fin rfl rfl⟩,⟨⟨_,rfl,okz_rows⟩,trivial⟩⟩
theorem best_h (r:Nat→Nat) (hr:∀ j,r j≤100000) (d:Nat) (k:Int) (hd:1≤d) (hd2:d≤1000) (h1:-(d:Int)≤k) (h2:k≤d) :
  HPure Try.prog 56 [rowV (2 * d+1) r,intV (d:Int),intV k] (t2 (intV ((bstR r d k).1:Nat)) (boolV (bstR r d k).2)):=by
 have hneg:IntKind.i64.wrap (0 - (d:Int))=-(d:Int):=by rw [IntKind.wrap_i64];omega
 refine hpure_of Try.func56 rfl kr _ _ _ rfl 59 rfl rfl (fun w F=>?_)
 refine srg fun N h1=>sa<|sa<|snl h1<|hw_seq fun Nh2 h2=>hd_start ?_
 refine dm 1 ?_
 refine dm 2 ?_
 refine d0 3 (HOp.val (v':=intV (-(d:Int))) (hop_neg rfl) (congrArg intV hneg)) ?_
 refine d0 4 hqi ?_
 refine dm 5 ?_
 refine hd_g 14 4 13 false _ (fun hb=>hop_move rfl) rfl rfl rfl rfl pre0 rfl rfl rfl (k':=6) rfl ?_
 refine hd_g 15 4 13 false _ (fun hb=>hop_move rfl) rfl rfl rfl rfl pre0 rfl rfl rfl (k':=7) rfl ?_
 refine hd_g 16 4 13 false _ (fun hb=>hop_neq rfl rfl) rfl rfl rfl rfl pre0 rfl rfl rfl (k':=8) rfl ?_
 refine hd_g 17 4 13 false _ (fun hb=>hop_move rfl) rfl rfl rfl rfl pre0 rfl rfl rfl (k':=9) rfl ?_
 refine hd_g3 18 8 17 13 false true _ _ (fun hb hb2=>hop_move rfl) rfl rfl rfl rfl rfl pre0 rfl (k':=10) rfl ?_
 refine hd_g3 19 8 17 13 false true _ _ (fun hb hb2=>hop_move rfl) rfl rfl rfl rfl rfl pre0 rfl (k':=11) rfl ?_
 first
 | refine hd_g3 20 8 17 13 false true _ _ (fun hb hb2=>hop_subi rfl rfl rfl (by first | exact Nat.le_of_ble_eq_true rfl | (simp at hb;omega) | (simp at hb2;omega) | (simp at hb hb2;first | omega | (dsimp only;omega) | (simp <;> omega)) | omega | (dsimp only;omega)) (by first | exact Nat.le_of_ble_eq_true rfl | (simp at hb;omega) | (simp at hb2;omega) | (simp at hb hb2;first | omega | (dsimp only;omega) | (simp <;> omega)) | omega | (dsimp only;omega))) rfl rfl rfl rfl rfl pre0 rfl (k':=12) rfl ?_
 | refine hd_g3 20 8 17 13 false true _ _ (fun hb hb2=>hop_sub rfl rfl) rfl rfl rfl rfl rfl pre0 rfl (k':=12) rfl ?_
 refine hd_g3 21 8 17 13 false true _ _ (fun hb hb2=>hop_move rfl) rfl rfl rfl rfl rfl pre0 rfl (k':=13) rfl ?_
 first
 | refine hd_g3 22 8 17 13 false true _ _ (fun hb hb2=>hop_addi rfl rfl rfl (by first | exact Nat.le_of_ble_eq_true rfl | (simp at hb;omega) | (simp at hb2;omega) | (simp at hb hb2;first | omega | (dsimp only;omega) | (simp <;> omega)) | omega | (dsimp only;omega)) (by first | exact Nat.le_of_ble_eq_true rfl | (simp at hb;omega) | (simp at hb2;omega) | (simp at hb hb2;first | omega | (dsimp only;omega) | (simp <;> omega)) | omega | (dsimp only;omega))) rfl rfl rfl rfl rfl pre0 rfl (k':=14) rfl ?_
 | refine hd_g3 22 8 17 13 false true _ _ (fun hb hb2=>hop_add rfl rfl) rfl rfl rfl rfl rfl pre0 rfl (k':=14) rfl ?_
 first
 | refine hd_g3 23 8 17 13 false true _ _ (fun hb hb2=>hop_subi rfl rfl rfl (by first | exact Nat.le_of_ble_eq_true rfl | (simp at hb;omega) | (simp at hb2;omega) | (simp at hb hb2;first | omega | (dsimp only;omega) | (simp <;> omega)) | omega | (dsimp only;omega)) (by first | exact Nat.le_of_ble_eq_true rfl | (simp at hb;omega) | (simp at hb2;omega) | (simp at hb hb2;first | omega | (dsimp only;omega) | (simp <;> omega)) | omega | (dsimp only;omega))) rfl rfl rfl rfl rfl pre0 rfl (k':=15) rfl ?_
 | refine hd_g3 23 8 17 13 false true _ _ (fun hb hb2=>hop_sub rfl rfl) rfl rfl rfl rfl rfl pre0 rfl (k':=15) rfl ?_
 first
 | refine hd_g3 24 8 17 13 false true _ _ (fun hb hb2=>hop_addi rfl rfl rfl (by first | exact Nat.le_of_ble_eq_true rfl | (simp at hb;omega) | (simp at hb2;omega) | (simp at hb hb2;first | omega | (dsimp only;omega) | (simp <;> omega)) | omega | (dsimp only;omega)) (by first | exact Nat.le_of_ble_eq_true rfl | (simp at hb;omega) | (simp at hb2;omega) | (simp at hb hb2;first | omega | (dsimp only;omega) | (simp <;> omega)) | omega | (dsimp only;omega))) rfl rfl rfl rfl rfl pre0 rfl (k':=16) rfl ?_
 | refine hd_g3 24 8 17 13 false true _ _ (fun hb hb2=>hop_add rfl rfl) rfl rfl rfl rfl rfl pre0 rfl (k':=16) rfl ?_
 first
 | refine hd_g3 25 8 17 13 false true _ _ (fun hb hb2=>hop_ia_sl el_45 rfl rfl (by first | exact Nat.le_of_ble_eq_true rfl | (simp at hb;omega) | (simp at hb2;omega) | (simp at hb hb2;first | omega | (dsimp only;omega) | (simp <;> omega)) | omega | (dsimp only;omega)) (by first | exact Nat.le_of_ble_eq_true rfl | (simp at hb;omega) | (simp at hb2;omega) | (simp at hb hb2;first | omega | (dsimp only;omega) | (simp <;> omega)) | omega | (dsimp only;omega)) (by first | exact Nat.le_of_ble_eq_true rfl | (simp at hb;omega) | (simp at hb2;omega) | (simp at hb hb2;first | omega | (dsimp only;omega) | (simp <;> omega)) | omega | (dsimp only;omega))) rfl rfl rfl rfl rfl pre0 rfl (k':=17) rfl ?_
 | refine hd_g3 25 8 17 13 false true _ _ (fun hb hb2=>hol_ia_os el_45 rfl rfl (by first | exact Nat.le_of_ble_eq_true rfl | (simp at hb;omega) | (simp at hb2;omega) | (simp at hb hb2;first | omega | (dsimp only;omega) | (simp <;> omega)) | omega | (dsimp only;omega)) (by first | exact Nat.le_of_ble_eq_true rfl | (simp at hb;omega) | (simp at hb2;omega) | (simp at hb hb2;first | omega | (dsimp only;omega) | (simp <;> omega)) | omega | (dsimp only;omega))) rfl rfl rfl rfl rfl (pre1 rfl) rfl (k':=17) rfl ?_
 first
 | refine hd_g3 26 8 17 13 false true _ _ (fun hb hb2=>hol_load ty_3 rfl (by first | exact Nat.le_of_ble_eq_true rfl | (simp at hb;omega) | (simp at hb2;omega) | (simp at hb hb2;first | omega | (dsimp only;omega) | (simp <;> omega)) | omega | (dsimp only;omega)) (by first | exact Nat.le_of_ble_eq_true rfl | (simp at hb;omega) | (simp at hb2;omega) | (simp at hb hb2;first | omega | (dsimp only;omega) | (simp <;> omega)) | omega | (dsimp only;omega)) (fun h=>(by first | rfl | cases h))) rfl rfl rfl rfl rfl (pre1 rfl) rfl (k':=18) rfl ?_
 | refine hd_g3 26 8 17 13 false true _ _ (fun hb hb2=>hop_load_fp ty_3 rfl (by first | exact Nat.le_of_ble_eq_true rfl | (simp at hb;omega) | (simp at hb2;omega) | (simp at hb hb2;first | omega | (dsimp only;omega) | (simp <;> omega)) | omega | (dsimp only;omega)) (fun h=>(by first | rfl | cases h))) rfl rfl rfl rfl rfl pre0 rfl (k':=18) rfl ?_
 refine hd_g3 27 8 17 13 false true _ _ (fun hb hb2=>hop_move rfl) rfl rfl rfl rfl rfl pre0 rfl (k':=19) rfl ?_
 refine hd_g3 28 8 17 13 false true _ _ (fun hb hb2=>hop_move rfl) rfl rfl rfl rfl rfl pre0 rfl (k':=20) rfl ?_
 first
 | refine hd_g3 29 8 17 13 false true _ _ (fun hb hb2=>hop_subi rfl rfl rfl (by first | exact Nat.le_of_ble_eq_true rfl | (simp at hb;omega) | (simp at hb2;omega) | (simp at hb hb2;first | omega | (dsimp only;omega) | (simp <;> omega)) | omega | (dsimp only;omega)) (by first | exact Nat.le_of_ble_eq_true rfl | (simp at hb;omega) | (simp at hb2;omega) | (simp at hb hb2;first | omega | (dsimp only;omega) | (simp <;> omega)) | omega | (dsimp only;omega))) rfl rfl rfl rfl rfl pre0 rfl (k':=21) rfl ?_
 | refine hd_g3 29 8 17 13 false true _ _ (fun hb hb2=>hop_sub rfl rfl) rfl rfl rfl rfl rfl pre0 rfl (k':=21) rfl ?_
 refine hd_g3 30 8 17 13 false true _ _ (fun hb hb2=>hop_move rfl) rfl rfl rfl rfl rfl pre0 rfl (k':=22) rfl ?_
 first
 | refine hd_g3 31 8 17 13 false true _ _ (fun hb hb2=>hop_addi rfl rfl rfl (by first | exact Nat.le_of_ble_eq_true rfl | (simp at hb;omega) | (simp at hb2;omega) | (simp at hb hb2;first | omega | (dsimp only;omega) | (simp <;> omega)) | omega | (dsimp only;omega)) (by first | exact Nat.le_of_ble_eq_true rfl | (simp at hb;omega) | (simp at hb2;omega) | (simp at hb hb2;first | omega | (dsimp only;omega) | (simp <;> omega)) | omega | (dsimp only;omega))) rfl rfl rfl rfl rfl pre0 rfl (k':=23) rfl ?_
 | refine hd_g3 31 8 17 13 false true _ _ (fun hb hb2=>hop_add rfl rfl) rfl rfl rfl rfl rfl pre0 rfl (k':=23) rfl ?_
 first
 | refine hd_g3 32 8 17 13 false true _ _ (fun hb hb2=>hop_addi rfl rfl rfl (by first | exact Nat.le_of_ble_eq_true rfl | (simp at hb;omega) | (simp at hb2;omega) | (simp at hb hb2;first | omega | (dsimp only;omega) | (simp <;> omega)) | omega | (dsimp only;omega)) (by first | exact Nat.le_of_ble_eq_true rfl | (simp at hb;omega) | (simp at hb2;omega) | (simp at hb hb2;first | omega | (dsimp only;omega) | (simp <;> omega)) | omega | (dsimp only;omega))) rfl rfl rfl rfl rfl pre0 rfl (k':=24) rfl ?_
 | refine hd_g3 32 8 17 13 false true _ _ (fun hb hb2=>hop_add rfl rfl) rfl rfl rfl rfl rfl pre0 rfl (k':=24) rfl ?_
 first
 | refine hd_g3 33 8 17 13 false true _ _ (fun hb hb2=>hop_addi rfl rfl rfl (by first | exact Nat.le_of_ble_eq_true rfl | (simp at hb;omega) | (simp at hb2;omega) | (simp at hb hb2;first | omega | (dsimp only;omega) | (simp <;> omega)) | omega | (dsimp only;omega)) (by first | exact Nat.le_of_ble_eq_true rfl | (simp at hb;omega) | (simp at hb2;omega) | (simp at hb hb2;first | omega | (dsimp only;omega) | (simp <;> omega)) | omega | (dsimp only;omega))) rfl rfl rfl rfl rfl pre0 rfl (k':=25) rfl ?_
 | refine hd_g3 33 8 17 13 false true _ _ (fun hb hb2=>hop_add rfl rfl) rfl rfl rfl rfl rfl pre0 rfl (k':=25) rfl ?_
 first
 | refine hd_g3 34 8 17 13 false true _ _ (fun hb hb2=>hop_ia_sl el_45 rfl rfl (by first | exact Nat.le_of_ble_eq_true rfl | (simp at hb;omega) | (simp at hb2;omega) | (simp at hb hb2;first | omega | (dsimp only;omega) | (simp <;> omega)) | omega | (dsimp only;omega)) (by first | exact Nat.le_of_ble_eq_true rfl | (simp at hb;omega) | (simp at hb2;omega) | (simp at hb hb2;first | omega | (dsimp only;omega) | (simp <;> omega)) | omega | (dsimp only;omega)) (by first | exact Nat.le_of_ble_eq_true rfl | (simp at hb;omega) | (simp at hb2;omega) | (simp at hb hb2;first | omega | (dsimp only;omega) | (simp <;> omega)) | omega | (dsimp only;omega))) rfl rfl rfl rfl rfl pre0 rfl (k':=26) rfl ?_
 | refine hd_g3 34 8 17 13 false true _ _ (fun hb hb2=>hol_ia_os el_45 rfl rfl (by first | exact Nat.le_of_ble_eq_true rfl | (simp at hb;omega) | (simp at hb2;omega) | (simp at hb hb2;first | omega | (dsimp only;omega) | (simp <;> omega)) | omega | (dsimp only;omega)) (by first | exact Nat.le_of_ble_eq_true rfl | (simp at hb;omega) | (simp at hb2;omega) | (simp at hb hb2;first | omega | (dsimp only;omega) | (simp <;> omega)) | omega | (dsimp only;omega))) rfl rfl rfl rfl rfl (pre1 rfl) rfl (k':=26) rfl ?_
 first
 | refine hd_g3 35 8 17 13 false true _ _ (fun hb hb2=>hol_load ty_3 rfl (by first | exact Nat.le_of_ble_eq_true rfl | (simp at hb;omega) | (simp at hb2;omega) | (simp at hb hb2;first | omega | (dsimp only;omega) | (simp <;> omega)) | omega | (dsimp only;omega)) (by first | exact Nat.le_of_ble_eq_true rfl | (simp at hb;omega) | (simp at hb2;omega) | (simp at hb hb2;first | omega | (dsimp only;omega) | (simp <;> omega)) | omega | (dsimp only;omega)) (fun h=>(by first | rfl | cases h))) rfl rfl rfl rfl rfl (pre1 rfl) rfl (k':=27) rfl ?_
 | refine hd_g3 35 8 17 13 false true _ _ (fun hb hb2=>hop_load_fp ty_3 rfl (by first | exact Nat.le_of_ble_eq_true rfl | (simp at hb;omega) | (simp at hb2;omega) | (simp at hb hb2;first | omega | (dsimp only;omega) | (simp <;> omega)) | omega | (dsimp only;omega)) (fun h=>(by first | rfl | cases h))) rfl rfl rfl rfl rfl pre0 rfl (k':=27) rfl ?_
 refine hd_g3 36 8 17 13 false true _ _ (fun hb hb2=>hop_lss rfl rfl) rfl rfl rfl rfl rfl pre0 rfl (k':=28) rfl ?_
 first
 | refine hd_pg 37 (hstep_andg (gi:=4) (j:=13) _ _ rfl rfl rfl rfl) rfl rfl (k':=29) rfl ?_
 | refine hd_pg 37 (hstep_org (gi:=4) (j:=13) _ _ rfl rfl rfl rfl) rfl rfl (k':=29) rfl ?_
 | refine hd_pg 37 (hstep_pickg (gi:=4) (j:=13) _ _ _ _ rfl rfl rfl rfl (fun _=>.refl _) (fun _=>.refl _)) rfl rfl (k':=29) rfl ?_
 first
 | refine hd_p 38 (hstep_and _ _ rfl rfl rfl) rfl rfl rfl (k':=30) rfl ?_
 | refine hd_p 38 (hstep_or _ _ rfl rfl rfl) rfl rfl rfl (k':=30) rfl ?_
 | refine hd_p 38 (hstep_pick _ _ _ _ rfl rfl rfl (fun _=>.refl _) (fun _=>.refl _)) rfl rfl rfl (k':=30) rfl ?_
 refine d0 31 (hop_assign rfl) ?_
 refine hd_nil kr kr (c':=31) rfl ?_
 refine h2 _<|hw_seq fun Nh3 h3=>srg fun N h4=>sm<|snl h4 ?_
 refine wc (fun hc0=>?_) (fun hc0=>?_)
 ·have hr0:=hc0;(try simp only [hcs,Int.reduceToNat] at hc0)
  have e1:bstR r d k=(r ((d:Int)+k+1).toNat,true):=(by rw [show (d:Int) - 1+k - 1+1=(d:Int)+k - 1 by omega,show (d:Int) - 1+k+1+1=(d:Int)+k+1 by omega] at hc0;unfold bstR;rw [if_pos om]);have hr1:=hr ((d:Int) - 1+k+1+1).toNat
  refine srg fun N h5=>sm<|sm ?_
  first
  | refine hq_ 42 (hop_subi rfl rfl rfl (by first | exact Nat.le_of_ble_eq_true rfl | omega | (dsimp only;omega) | (simp <;> omega)) (by first | exact Nat.le_of_ble_eq_true rfl | omega | (dsimp only;omega) | (simp <;> omega))) rfl rfl pre0 rfl rfl ?_
  | refine hq_ 42 (hop_sub rfl rfl) rfl rfl pre0 rfl rfl ?_
  refine sm ?_
  first
  | refine hq_ 44 (hop_addi rfl rfl rfl (by first | exact Nat.le_of_ble_eq_true rfl | omega | (dsimp only;omega) | (simp <;> omega)) (by first | exact Nat.le_of_ble_eq_true rfl | omega | (dsimp only;omega) | (simp <;> omega))) rfl rfl pre0 rfl rfl ?_
  | refine hq_ 44 (hop_add rfl rfl) rfl rfl pre0 rfl rfl ?_
  first
  | refine hq_ 45 (hop_addi rfl rfl rfl (by first | exact Nat.le_of_ble_eq_true rfl | omega | (dsimp only;omega) | (simp <;> omega)) (by first | exact Nat.le_of_ble_eq_true rfl | omega | (dsimp only;omega) | (simp <;> omega))) rfl rfl pre0 rfl rfl ?_
  | refine hq_ 45 (hop_add rfl rfl) rfl rfl pre0 rfl rfl ?_
  first
  | refine hq_ 46 (hop_addi rfl rfl rfl (by first | exact Nat.le_of_ble_eq_true rfl | omega | (dsimp only;omega) | (simp <;> omega)) (by first | exact Nat.le_of_ble_eq_true rfl | omega | (dsimp only;omega) | (simp <;> omega))) rfl rfl pre0 rfl rfl ?_
  | refine hq_ 46 (hop_add rfl rfl) rfl rfl pre0 rfl rfl ?_
  first
  | refine hq_ 47 (hop_ia_sl el_45 rfl rfl (by first | exact Nat.le_of_ble_eq_true rfl | omega | (dsimp only;omega) | (simp <;> omega)) (by first | exact Nat.le_of_ble_eq_true rfl | omega | (dsimp only;omega) | (simp <;> omega)) (by first | exact Nat.le_of_ble_eq_true rfl | omega | (dsimp only;omega) | (simp <;> omega))) rfl rfl pre0 rfl rfl ?_
  | refine hq_ 47 (hol_ia_os el_45 rfl rfl (by first | exact Nat.le_of_ble_eq_true rfl | omega | (dsimp only;omega) | (simp <;> omega)) (by first | exact Nat.le_of_ble_eq_true rfl | omega | (dsimp only;omega) | (simp <;> omega))) rfl rfl (pre1 rfl) rfl rfl ?_
  first
  | refine hq_ 48 (hol_load ty_3 rfl (by first | exact Nat.le_of_ble_eq_true rfl | omega | (dsimp only;omega) | (simp <;> omega)) (by first | exact Nat.le_of_ble_eq_true rfl | omega | (dsimp only;omega) | (simp <;> omega)) (fun h=>(by first | rfl | cases h))) rfl rfl (pre1 rfl) rfl rfl ?_
  | refine hq_ 48 (hop_load_fp ty_3 rfl (by first | exact Nat.le_of_ble_eq_true rfl | omega | (dsimp only;omega) | (simp <;> omega)) (fun h=>(by first | rfl | cases h))) rfl rfl pre0 rfl rfl ?_
  refine sa<|sa<|snl h5<|hw_ret<|hq_then_ret ?_
  refine hq_ret2 rfl (rval_tmp rfl) (rval_tmp rfl) [] rfl pre0 ?_
  rw [e1];exact fz_t2 (Fz.eq (show intV ((r ((d:Int) - 1+k+1+1).toNat:Nat):Int)=_ from congrArg (fun z:Int=>intV ((r z.toNat:Nat):Int)) (show (d:Int) - 1+k+1+1=(d:Int)+k+1 by omega))) (.imm _)
 have hr0:=hc0;(try simp only [hcs,Int.reduceToNat] at hc0)
 have e1:bstR r d k=(r ((d:Int)+k - 1).toNat+1,false):=(by rw [show (d:Int) - 1+k - 1+1=(d:Int)+k - 1 by omega,show (d:Int) - 1+k+1+1=(d:Int)+k+1 by omega] at hc0;have h9:=hc0.2;rw [Bool.and_eq_false_iff,bne_eq_false_iff_eq,decide_eq_false_iff_not] at h9;have h8:=hc0.1;unfold bstR;rw [if_neg om]);have hr1:=hr ((d:Int) - 1+k - 1+1).toNat;have hkd:k≠-(d:Int):=hc0.1
 refine hw_skip<|h3 _<|srg fun N h6=>sm<|sm ?_
 first
 | refine hq_ 51 (hop_subi rfl rfl rfl (by first | exact Nat.le_of_ble_eq_true rfl | omega | (dsimp only;omega) | (simp <;> omega)) (by first | exact Nat.le_of_ble_eq_true rfl | omega | (dsimp only;omega) | (simp <;> omega))) rfl rfl pre0 rfl rfl ?_
 | refine hq_ 51 (hop_sub rfl rfl) rfl rfl pre0 rfl rfl ?_
 refine sm ?_
 first
 | refine hq_ 53 (hop_addi rfl rfl rfl (by first | exact Nat.le_of_ble_eq_true rfl | omega | (dsimp only;omega) | (simp <;> omega)) (by first | exact Nat.le_of_ble_eq_true rfl | omega | (dsimp only;omega) | (simp <;> omega))) rfl rfl pre0 rfl rfl ?_
 | refine hq_ 53 (hop_add rfl rfl) rfl rfl pre0 rfl rfl ?_
 first
 | refine hq_ 54 (hop_subi rfl rfl rfl (by first | exact Nat.le_of_ble_eq_true rfl | omega | (dsimp only;omega) | (simp <;> omega)) (by first | exact Nat.le_of_ble_eq_true rfl | omega | (dsimp only;omega) | (simp <;> omega))) rfl rfl pre0 rfl rfl ?_
 | refine hq_ 54 (hop_sub rfl rfl) rfl rfl pre0 rfl rfl ?_
 first
 | refine hq_ 55 (hop_addi rfl rfl rfl (by first | exact Nat.le_of_ble_eq_true rfl | omega | (dsimp only;omega) | (simp <;> omega)) (by first | exact Nat.le_of_ble_eq_true rfl | omega | (dsimp only;omega) | (simp <;> omega))) rfl rfl pre0 rfl rfl ?_
 | refine hq_ 55 (hop_add rfl rfl) rfl rfl pre0 rfl rfl ?_
 first
 | refine hq_ 56 (hop_ia_sl el_45 rfl rfl (by first | exact Nat.le_of_ble_eq_true rfl | omega | (dsimp only;omega) | (simp <;> omega)) (by first | exact Nat.le_of_ble_eq_true rfl | omega | (dsimp only;omega) | (simp <;> omega)) (by first | exact Nat.le_of_ble_eq_true rfl | omega | (dsimp only;omega) | (simp <;> omega))) rfl rfl pre0 rfl rfl ?_
 | refine hq_ 56 (hol_ia_os el_45 rfl rfl (by first | exact Nat.le_of_ble_eq_true rfl | omega | (dsimp only;omega) | (simp <;> omega)) (by first | exact Nat.le_of_ble_eq_true rfl | omega | (dsimp only;omega) | (simp <;> omega))) rfl rfl (pre1 rfl) rfl rfl ?_
 first
 | refine hq_ 57 (hol_load ty_3 rfl (by first | exact Nat.le_of_ble_eq_true rfl | omega | (dsimp only;omega) | (simp <;> omega)) (by first | exact Nat.le_of_ble_eq_true rfl | omega | (dsimp only;omega) | (simp <;> omega)) (fun h=>(by first | rfl | cases h))) rfl rfl (pre1 rfl) rfl rfl ?_
 | refine hq_ 57 (hop_load_fp ty_3 rfl (by first | exact Nat.le_of_ble_eq_true rfl | omega | (dsimp only;omega) | (simp <;> omega)) (fun h=>(by first | rfl | cases h))) rfl rfl pre0 rfl rfl ?_
 first
 | refine hq_ 58 (hop_addi rfl rfl rfl (by first | exact Nat.le_of_ble_eq_true rfl | omega | (dsimp only;omega) | (simp <;> omega)) (by first | exact Nat.le_of_ble_eq_true rfl | omega | (dsimp only;omega) | (simp <;> omega))) rfl rfl pre0 rfl rfl ?_
 | refine hq_ 58 (hop_add rfl rfl) rfl rfl pre0 rfl rfl ?_
 refine sa<|sa<|snl h6<|hw_ret ?_
 refine hq_ret2 rfl (rval_tmp rfl) (rval_tmp rfl) [] rfl pre0 ?_
 rw [e1];exact fz_t2 (Fz.eq (show intV (((r ((d:Int) - 1+k - 1+1).toNat:Nat):Int)+1)=_ from congrArg (fun z:Int=>intV (((r z.toNat:Nat):Int)+1)) (show (d:Int) - 1+k - 1+1=(d:Int)+k - 1 by omega))) (.imm _)
@[reducible] def rowF1 (r:Nat→Nat):Nat→Nat→HV:=fun j _=>intV (r j:Int)
@[reducible] def rowO1 (g n:Nat) (r:Nat→Nat):HObj:=⟨g,n,1,3,0,rowF1 r⟩
theorem hit_none {s:Nat→Nat→Bool} {N M d:Nat} (hs:∀ i k,s i k=true→i < N∧k < M) (h:∀ k,onD d k→¬ hit s N M d k):d≠fewest s N M:=fun e=>by
 subst e
 exact h _ (hit_last s N M hs).1 (hit_last s N M hs).2
def Found (a b:List Tok) (R:Nat→Nat→Nat):Prop:=∀ i,i < fewest (samV a b) a.length b.length→R i=full (samV a b) a.length i
theorem updA {F:Nat→Nat→HV} {q k:Nat} {x:Nat→HV}:upd F q 0 1 x k 0=if k=q then x 0 else F k 0:=by
 unfold upd inb
 have h0:(Nat.ble 0 0&&Nat.blt 0 (0+1))=true:=by simp
 by_cases e:k=q
 ·subst e
  have:Nat.beq k k=true:=by simp
  rw [h0,this,if_pos rfl];rfl
 ·have:Nat.beq k q=false:=(by rw [Bool.eq_false_iff];intro h;exact e (Nat.eq_of_beq_eq_true h))
  rw [this,if_neg e];rfl
theorem okz_finU {kp sh:List (Nat×HObj)} {g g2 n:Nat} {a b:List Tok} {o2:HObj} {F:Nat→Nat→HV} (f0:F 0 0=toksV a) (f1:F 0 1=toksV b) (f2:F 0 2=.os 9002 g2 0 n) (h2:hget kp 9002=some o2) (e2:o2.g=g2):OKz kp sh ⟨g,1,3,77,0,F⟩ (finO g a b (.os 9002 g2 0 n)):=.of fun i j hi hj=>by
 obtain rfl:i=0:=by omega
 match j,hj with
 | 0,_=>rw [f0];exact .fz _ _ (fz_toks _)
 | 1,_=>rw [f1];exact .fz _ _ (fz_toks _)
 | 2,_=>rw [f2];exact .os _ _ _ _ _ h2 e2
theorem okz_rowsU {kp sh:List (Nat×HObj)} {g n:Nat} {F:Nat→Nat→HV} {R:Nat→Nat→Nat} (hF:∀ i,i < n→F i 0=rowV (2 * i+3) (R i)):OKz kp sh ⟨g,n,1,45,0,F⟩ (rowsO g n R):=.of fun i j hi hj=>by
 obtain rfl:j=0:=by omega
 rw [hF i hi];exact .fz _ _ (fz_rows R i 0)
theorem osub_rowsU {g n:Nat} {F:Nat→Nat→HV} {R:Nat→Nat→Nat} (hF:∀ i,i < n→F i 0=rowV (2 * i+3) (R i)):OSub ⟨g,n,1,45,0,F⟩ (rowsO g n R):=.of fun i j hi hj=>by
 obtain rfl:j=0:=by omega
 rw [hF i hi];exact .refl _
@[reducible] def snocR (R:Nat→Nat→Nat) (d:Nat) (r:Nat→Nat):Nat→Nat→Nat:=fun i=>if i < d then R i else r
theorem rows_snoc {R:Nat→Nat→Nat} {d:Nat} {r:Nat→Nat} (i:Nat) (hi:i < d+1):cat d (rowsF R) (bsf [rowV (2 * d+3) r]) i 0=rowV (2 * i+3) (snocR R d r i):=by
 by_cases h:i < d
 ·rw [cat_lt h]
  show rowV (2 * i+3) (R i)=_
  rw [show snocR R d r i=R i from if_pos h]
 ·obtain rfl:i=d:=by omega
  rw [cat_ge (by omega),Nat.sub_self,show snocR R i r i=r from if_neg h]
  rfl
theorem row_put {s:Nat→Nat→Bool} {N d:Nat} {k:Int} (h1:-(d:Int)≤k) (h2:(k+d) % 2=0) {x:Nat} (hx:far s N d k=x) {z:Nat→HV} (hz:z 0=intV (x:Int)) (i:Nat):upd (rowF1 (rowAt s N d k)) (0+((d:Int)+k+1).toNat) 0 1 z i 0=intV (rowAt s N d (k+2) i:Int):=by
 rw [updA,rowAt_succ s N h1 h2,Nat.zero_add]
 by_cases e:i=((d:Int)+k+1).toNat
 ·rw [if_pos e,if_pos e,hz,hx]
 ·rw [if_neg e,if_neg e]
theorem fz_rowU {sh:List (Nat×HObj)} {id g n fl:Nat} {ty:TypeId} {r':Nat→Nat} {F:Nat→Nat→HV} (ho:(id,⟨g,n,1,ty,fl,F⟩)∈sh) (hF:∀ i,i < n→F i 0=intV (r' i:Int)):Fz sh (.os id g 0 n) (rowV n r') :=
 Fz.os id g 0 n _ _ ho rfl (by show 0+n≤n;omega) (fun i j hi hj=>by
  have hj:j < 1:=hj
  obtain rfl:j=0:=by omega
  show Fz sh (F (0+i) 0) (intV (r' i:Int))
  rw [Nat.zero_add,hF i hi];exact .imm _)
theorem find_h (a b:List Tok) (ha:a.length≤150) (hb:b.length≤150) (g1 g2:Nat) (R0:Nat→Nat→Nat) (c:Nat) :
  HFun Try.prog 37 c [.pt 9001 g1 0 0] [(9001,finO g1 a b (.os 9002 g2 0 0)),(9002,rowsO g2 0 R0)]
   (RetP (fun (p:Nat×(Nat→Nat→Nat)) _=>Found a b p.2) (fun _=>boolV true) (fun p=>[(9001,finO g1 a b (.os 9002 p.1 0 (fewest (samV a b) a.length b.length+1))),(9002,rowsO p.1 (fewest (samV a b) a.length b.length+1) p.2)])):=by
 have hD:=fewest_le (samV a b) a.length b.length
 generalize hDe:fewest (samV a b) a.length b.length=D at hD
 refine hfun_of Try.func37 rfl kr _ _ _ _ rfl 87 rfl rfl (fun X ok hX=>?_)
 refine srg fun N h1=>sa<|snl h1<|hw_seq fun Nh2 h2=>srg fun N h3=>sa<|snl h3<|hw_block ?_
 refine hw_loopc (α:=Nat×Nat×(Nat→Nat→Nat)) (fun x c=>⟨87,[(0,.v (.pt 9001 g1 0 0)),(3,.v (intV (x.1:Int)))],[(9001,finO g1 a b (.os 9002 x.2.1 0 x.1)),(9002,rowsO x.2.1 x.1 x.2.2)],c⟩) (fun x=>x.1≤D∧∀ i,i < x.1→x.2.2 i=full (samV a b) a.length i) (fun x=>D - x.1) ((0,g2,R0)) (by exact ⟨Nat.zero_le _,fun i hi=>absurd hi (Nat.not_lt_zero _)⟩) (hsub_of rfl (Nat.le_refl _) tsa hsa) (fun x c hx NhL4 hL4=>?_)
 revert hx hL4;obtain ⟨d,gq,R⟩:=x;intro hx hL4;dsimp only at hx hL4 ⊢
 obtain ⟨hd,hR⟩:=hx
 refine hw_seq fun Nh5 h5=>srg fun N h6=>sm ?_
 refine s0 (hop_leq rfl rfl) ?_
 refine snl h6 ?_
 refine wc (fun hc0=>?_) (fun hc0=>?_)
 ·have hr0:=hc0;(try simp only [hcs,Int.reduceToNat] at hc0)
  let c0:=c
  refine hw_skip<|h5 _<|hw_seq fun Nh7 h7=>hw_block<|srg fun N h8=>sm ?_
  first
  | refine hq_ 12 (hop_muli rfl rfl rfl (by first | exact Nat.le_of_ble_eq_true rfl | omega | (dsimp only;omega) | (simp <;> omega)) (by first | exact Nat.le_of_ble_eq_true rfl | omega | (dsimp only;omega) | (simp <;> omega))) rfl rfl pre0 rfl rfl ?_
  | refine hq_ 12 (hop_mul rfl rfl) rfl rfl pre0 rfl rfl ?_
  first
  | refine hq_ 13 (HOp.val (v':=intV ((2 * d+3:Nat):Int)) (hop_addi rfl rfl rfl (by first | exact Nat.le_of_ble_eq_true rfl | omega | (dsimp only;omega) | (simp <;> omega)) (by first | exact Nat.le_of_ble_eq_true rfl | omega | (dsimp only;omega) | (simp <;> omega))) (congrArg intV (by omega))) rfl rfl pre0 rfl rfl ?_
  | refine hq_ 13 (HOp.val (v':=intV ((2 * d+3:Nat):Int)) (hop_add rfl rfl) (congrArg intV (by omega))) rfl rfl pre0 rfl rfl ?_
  refine hm_1 14 (hop_make (id:=14) (n:=_) (m:=_) ei_45 omx omx rfl rfl rfl rfl omx omx omx rfl) rfl rfl pre0 rfl rfl (c':=c+1) rfl ?_
  refine sa<|snl h8<|hw_seq fun Nh9 h9=>srg fun N h10=>sm ?_
  refine s0 (HOp.val (v':=intV (-(d:Int))) (hop_neg rfl) (congrArg intV (by rw [IntKind.wrap_i64];omega))) ?_
  refine sa<|snl h10<|hw_block ?_
  refine hw_loopc (α:=Int) (fun x c=>⟨87,[(0,.v (.pt 9001 g1 0 0)),(3,.v (intV (d:Int))),(4,.v (.os 14 c0 0 (2 * d+3))),(5,.v (intV x))],[(9001,finO g1 a b (.os 9002 gq 0 d)),(9002,rowsO gq d R),(14,rowO1 c0 (2 * d+3) (rowAt (samV a b) a.length d x))],c⟩) (fun x=>-(d:Int)≤x∧x≤d+2∧(x+d) % 2=0∧∀ k',onD d k'→k' < x→¬ hit (samV a b) a.length b.length d k') (fun x=>((d:Int)+2 - x).toNat) (-(d:Int)) (by exact ⟨by omega,by omega,by omega,fun k' h1 h2=>absurd h1.1 om⟩) (hsub_of rfl (Nat.le_refl _) tsa (hsr rfl (hsr rfl (HpSub.cons rfl (OSub.of fun i j hi hj=>by obtain rfl:j=0:=om;show Sb (intV 0) (intV (rowAt (samV a b) a.length d (-(d:Int)) i:Nat));rw [rowAt_none];exact .refl _) HpSub.nil)))) (fun k c hx NhL11 hL11=>?_)
  (try dsimp only at hx hL11 ⊢)
  obtain ⟨hk1,hk2,hk3,hno⟩:=hx
  refine hw_seq fun Nh12 h12=>srg fun N h13=>sm<|sm ?_
  refine s0 (hop_leq rfl rfl) ?_
  refine snl h13 ?_
  refine wc (fun hc1=>?_) (fun hc1=>?_)
  ·have hr1:=hc1;(try simp only [hcs,Int.reduceToNat] at hc1)
   have hon:onD d k:=⟨by omega,by omega,by omega⟩;have hkd:k≤(d:Int):=by omega
   refine hw_skip<|h12 _<|hw_seq fun Nh14 h14=>hw_block<|srg fun N h15=>sa<|snl h15 ?_
   refine hw_joinc (α:=Nat) (fun x c=>⟨87,[(0,.v (.pt 9001 g1 0 0)),(3,.v (intV (d:Int))),(4,.v (.os 14 c0 0 (2 * d+3))),(5,.v (intV k)),(6,.v (intV (x:Int)))],[(9001,finO g1 a b (.os 9002 gq 0 d)),(9002,rowsO gq d R),(14,rowO1 c0 (2 * d+3) (rowAt (samV a b) a.length d k))],c⟩) (fun x=>far (samV a b) a.length d k=sld (samV a b) a.length x ((x:Int) - k).toNat∧k≤x∧x≤1000) (fun NhJ16 hJ16=>?_) (fun x0 c hx=>?_)
   ·skip
    refine srg fun N h17=>sm ?_
    refine s0 (hop_gtr rfl rfl) ?_
    refine snl h17 ?_
    refine wc (fun hc2=>?_) (fun hc2=>?_)
    ·have hr2:=hc2;(try simp only [hcs,Int.reduceToNat] at hc2)
     obtain ⟨e,rfl⟩:∃ e,d=e+1:=⟨d - 1,by omega⟩
     refine hw_region<|sm ?_
     first
     | refine hq_ 26 (hop_nilcheck_pt rfl) rfl rfl pre0 rfl rfl ?_
     | refine hq_ 26 (hop_nilcheck_fp rfl) rfl rfl pre0 rfl rfl ?_
     first
     | refine hq_ 27 (hop_fa fd_77_2 rfl) rfl rfl pre0 rfl rfl ?_
     | refine hq_ 27 (hop_fa_fp fd_77_2 rfl (by first | exact Nat.le_of_ble_eq_true rfl | omega | (dsimp only;omega) | (simp <;> omega))) rfl rfl pre0 rfl rfl ?_
     first
     | refine hq_ 28 (hol_load ty_75 rfl (by first | exact Nat.le_of_ble_eq_true rfl | omega | (dsimp only;omega) | (simp <;> omega)) (by first | exact Nat.le_of_ble_eq_true rfl | omega | (dsimp only;omega) | (simp <;> omega)) (fun h=>(by first | rfl | cases h))) rfl rfl (pre1 rfl) rfl rfl ?_
     | refine hq_ 28 (hop_load_fp ty_75 rfl (by first | exact Nat.le_of_ble_eq_true rfl | omega | (dsimp only;omega) | (simp <;> omega)) (fun h=>(by first | rfl | cases h))) rfl rfl pre0 rfl rfl ?_
     refine sm ?_
     first
     | refine hq_ 30 (hop_subi rfl rfl rfl (by first | exact Nat.le_of_ble_eq_true rfl | omega | (dsimp only;omega) | (simp <;> omega)) (by first | exact Nat.le_of_ble_eq_true rfl | omega | (dsimp only;omega) | (simp <;> omega))) rfl rfl pre0 rfl rfl ?_
     | refine hq_ 30 (hop_sub rfl rfl) rfl rfl pre0 rfl rfl ?_
     first
     | refine hq_ 31 (hop_ia_sl el_75 rfl rfl (by first | exact Nat.le_of_ble_eq_true rfl | omega | (dsimp only;omega) | (simp <;> omega)) (by first | exact Nat.le_of_ble_eq_true rfl | omega | (dsimp only;omega) | (simp <;> omega)) (by first | exact Nat.le_of_ble_eq_true rfl | omega | (dsimp only;omega) | (simp <;> omega))) rfl rfl pre0 rfl rfl ?_
     | refine hq_ 31 (hol_ia_os el_75 rfl rfl (by first | exact Nat.le_of_ble_eq_true rfl | omega | (dsimp only;omega) | (simp <;> omega)) (by first | exact Nat.le_of_ble_eq_true rfl | omega | (dsimp only;omega) | (simp <;> omega))) rfl rfl (pre1 rfl) rfl rfl ?_
     first
     | refine hq_ 32 (HOp.val (v':=rowV (2 * (e+1)+1) (full (samV a b) a.length e)) (hol_load ty_45 rfl (by first | exact Nat.le_of_ble_eq_true rfl | omega | (dsimp only;omega) | (simp <;> omega)) (by first | exact Nat.le_of_ble_eq_true rfl | omega | (dsimp only;omega) | (simp <;> omega)) (fun h=>(by first | rfl | cases h))) ((by show rowV (2 * (0+(((e+1:Nat):Int) - 1).toNat)+3) (R (0+(((e+1:Nat):Int) - 1).toNat))=_;rw [show 0+(((e+1:Nat):Int) - 1).toNat=e by omega,hR e (by omega)];exact congrArg (fun z=>rowV z _) (by omega)))) rfl rfl (pre1 rfl) rfl rfl ?_
     | refine hq_ 32 (HOp.val (v':=rowV (2 * (e+1)+1) (full (samV a b) a.length e)) (hop_load_fp ty_45 rfl (by first | exact Nat.le_of_ble_eq_true rfl | omega | (dsimp only;omega) | (simp <;> omega)) (fun h=>(by first | rfl | cases h))) ((by show rowV (2 * (0+(((e+1:Nat):Int) - 1).toNat)+3) (R (0+(((e+1:Nat):Int) - 1).toNat))=_;rw [show 0+(((e+1:Nat):Int) - 1).toNat=e by omega,hR e (by omega)];exact congrArg (fun z=>rowV z _) (by omega)))) rfl rfl pre0 rfl rfl ?_
     refine sm<|sm ?_
     refine s0 (hop_call0 (xs:=[_,_,_]) (best_h (full (samV a b) a.length e) (fun j=>Nat.le_trans (rowAt_le _ _ _ _ _) om) (e+1) k om om hk1 hkd) ⟨rfl,⟨rfl,⟨rfl,trivial⟩⟩⟩ ⟨fe,⟨fe,⟨fe,trivial⟩⟩⟩) ?_
     refine sm ?_
     refine s0 hex ?_
     refine s0 hex ?_
     refine sa<|hseq_nil ?_
     exact hJ16 ((bstR (full (samV a b) a.length e) (e+1) k).1) _ _ (by (try dsimp only);have hb9:=bst_ge (samV a b) a.length hon;rw [bstR_full (samV a b) a.length hon];exact ⟨rfl,hb9.1,by omega⟩) (hsub_of rfl (Nat.le_refl _) tsa hsa)
    have hr2:=hc2;(try simp only [hcs,Int.reduceToNat] at hc2)
    obtain rfl:d=0:=om
    refine hw_skip ?_
    exact hJ16 (0) _ _ (by (try dsimp only);exact ⟨rfl,by have:=hon.2.1;omega,by omega⟩) (hsub_of rfl (Nat.le_refl _) tsa hsa)
   ·skip
    (try dsimp only at hx ⊢)
    obtain ⟨hf,hx1,hx2⟩:=hx
    refine srg fun N h18=>sm<|sm<|sm ?_
    refine hq_ 41 (hop_funR (xs:=[_,_,_]) (pre:=[(9001,_),(9002,_)]) (slide_h a b om om x0 ((x0:Int) - k).toNat k om om om g1 gq d R) ⟨rfl,⟨rfl,⟨rfl,trivial⟩⟩⟩) rfl rfl (preC rfl (preC rfl pre0)) rfl rfl ?_
    refine sa<|snl h18<|hw_seq fun Nh19 h19=>?_
    have hsl:=sld_le (samV a b) a.length x0 ((x0:Int) - k).toNat;have hsg:x0≤sld (samV a b) a.length x0 ((x0:Int) - k).toNat:=slid_ge _ _ _ _
    refine hw_region<|sm<|sm<|sm ?_
    first
    | refine hq_ 45 (hop_addi rfl rfl rfl (by first | exact Nat.le_of_ble_eq_true rfl | omega | (dsimp only;omega) | (simp <;> omega)) (by first | exact Nat.le_of_ble_eq_true rfl | omega | (dsimp only;omega) | (simp <;> omega))) rfl rfl pre0 rfl rfl ?_
    | refine hq_ 45 (hop_add rfl rfl) rfl rfl pre0 rfl rfl ?_
    first
    | refine hq_ 46 (hop_addi rfl rfl rfl (by first | exact Nat.le_of_ble_eq_true rfl | omega | (dsimp only;omega) | (simp <;> omega)) (by first | exact Nat.le_of_ble_eq_true rfl | omega | (dsimp only;omega) | (simp <;> omega))) rfl rfl pre0 rfl rfl ?_
    | refine hq_ 46 (hop_add rfl rfl) rfl rfl pre0 rfl rfl ?_
    refine sm ?_
    first
    | refine hq_ 48 (hop_ia_sl el_45 rfl rfl (by first | exact Nat.le_of_ble_eq_true rfl | omega | (dsimp only;omega) | (simp <;> omega)) (by first | exact Nat.le_of_ble_eq_true rfl | omega | (dsimp only;omega) | (simp <;> omega)) (by first | exact Nat.le_of_ble_eq_true rfl | omega | (dsimp only;omega) | (simp <;> omega))) rfl rfl pre0 rfl rfl ?_
    | refine hq_ 48 (hol_ia_os el_45 rfl rfl (by first | exact Nat.le_of_ble_eq_true rfl | omega | (dsimp only;omega) | (simp <;> omega)) (by first | exact Nat.le_of_ble_eq_true rfl | omega | (dsimp only;omega) | (simp <;> omega))) rfl rfl (pre1 rfl) rfl rfl ?_
    first
    | refine hm_s1 (hol_storeW ty_3 rfl rfl rfl rfl) rfl rfl (pre1 rfl) (c':=c+1) rfl ?_
    | refine hm_s1 (hol_store ty_3 rfl rfl rfl rfl (by first | exact Nat.le_of_ble_eq_true rfl | omega | (dsimp only;omega) | (simp <;> omega)) (by first | exact Nat.le_of_ble_eq_true rfl | omega | (dsimp only;omega) | (simp <;> omega)) (by first | exact Nat.le_of_ble_eq_true rfl | omega | (dsimp only;omega) | (simp <;> omega))) rfl rfl (pre1 rfl) (c':=c+1) rfl ?_
    refine snl h19<|srg fun N h20=>sm<|sm ?_
    first
    | refine hq_ 51 (hop_nilcheck_pt rfl) rfl rfl pre0 rfl rfl ?_
    | refine hq_ 51 (hop_nilcheck_fp rfl) rfl rfl pre0 rfl rfl ?_
    first
    | refine hq_ 52 (hop_fa fd_77_0 rfl) rfl rfl pre0 rfl rfl ?_
    | refine hq_ 52 (hop_fa_fp fd_77_0 rfl (by first | exact Nat.le_of_ble_eq_true rfl | omega | (dsimp only;omega) | (simp <;> omega))) rfl rfl pre0 rfl rfl ?_
    first
    | refine hq_ 53 (hol_load ty_22 rfl (by first | exact Nat.le_of_ble_eq_true rfl | omega | (dsimp only;omega) | (simp <;> omega)) (by first | exact Nat.le_of_ble_eq_true rfl | omega | (dsimp only;omega) | (simp <;> omega)) (fun h=>(by first | rfl | cases h))) rfl rfl (pre1 rfl) rfl rfl ?_
    | refine hq_ 53 (hop_load_fp ty_22 rfl (by first | exact Nat.le_of_ble_eq_true rfl | omega | (dsimp only;omega) | (simp <;> omega)) (fun h=>(by first | rfl | cases h))) rfl rfl pre0 rfl rfl ?_
    first
    | refine hq_ 54 (hop_len_sl (T:=22) rfl (elOf_spec el_22).1 rfl) rfl rfl pre0 rfl rfl ?_
    | refine hq_ 54 (hop_len_os (T:=22) rfl (elOf_spec el_22).1 rfl) rfl rfl pre0 rfl rfl ?_
    | refine hq_ 54 (hop_len_nil (T:=22) rfl (elOf_spec el_22).1 rfl) rfl rfl pre0 rfl rfl ?_
    refine s0 (hop_geq rfl rfl) ?_
    refine sm ?_
    first
    | refine stg 56 (fun hb=>hop_move rfl) rfl rfl rfl rfl rfl ?_
    | refine sth 56 (fun hb=>hop_move rfl) rfl rfl rfl rfl rfl ?_
    first
    | refine stg 56 (fun hb=>hop_move rfl) rfl rfl rfl rfl rfl ?_
    | refine sth 56 (fun hb=>hop_move rfl) rfl rfl rfl rfl rfl ?_
    first
    | refine stg 56 (fun hb=>hop_subi rfl rfl rfl (by first | exact Nat.le_of_ble_eq_true rfl | (simp at hb;first | omega | (dsimp only;omega) | (simp <;> omega)) | omega | (dsimp only;omega)) (by first | exact Nat.le_of_ble_eq_true rfl | (simp at hb;first | omega | (dsimp only;omega) | (simp <;> omega)) | omega | (dsimp only;omega))) rfl rfl rfl rfl rfl ?_
    | refine sth 56 (fun hb=>hop_subi rfl rfl rfl (by first | exact Nat.le_of_ble_eq_true rfl | (simp at hb;first | omega | (dsimp only;omega) | (simp <;> omega)) | omega | (dsimp only;omega)) (by first | exact Nat.le_of_ble_eq_true rfl | (simp at hb;first | omega | (dsimp only;omega) | (simp <;> omega)) | omega | (dsimp only;omega))) rfl rfl rfl rfl rfl ?_
    | refine stg 56 (fun hb=>hop_sub rfl rfl) rfl rfl rfl rfl rfl ?_
    | refine sth 56 (fun hb=>hop_sub rfl rfl) rfl rfl rfl rfl rfl ?_
    first
    | refine stg 56 (fun hb=>hop_move rfl) rfl rfl rfl rfl rfl ?_
    | refine sth 56 (fun hb=>hop_move rfl) rfl rfl rfl rfl rfl ?_
    first
    | refine stg 56 (fun hb=>hop_nilcheck_pt rfl) rfl rfl rfl rfl rfl ?_
    | refine sth 56 (fun hb=>hop_nilcheck_pt rfl) rfl rfl rfl rfl rfl ?_
    | refine stg 56 (fun hb=>hop_nilcheck_fp rfl) rfl rfl rfl rfl rfl ?_
    | refine sth 56 (fun hb=>hop_nilcheck_fp rfl) rfl rfl rfl rfl rfl ?_
    first
    | refine stg 56 (fun hb=>hop_fa fd_77_1 rfl) rfl rfl rfl rfl rfl ?_
    | refine sth 56 (fun hb=>hop_fa fd_77_1 rfl) rfl rfl rfl rfl rfl ?_
    | refine stg 56 (fun hb=>hop_fa_fp fd_77_1 rfl (by first | exact Nat.le_of_ble_eq_true rfl | (simp at hb;first | omega | (dsimp only;omega) | (simp <;> omega)) | omega | (dsimp only;omega))) rfl rfl rfl rfl rfl ?_
    | refine sth 56 (fun hb=>hop_fa_fp fd_77_1 rfl (by first | exact Nat.le_of_ble_eq_true rfl | (simp at hb;first | omega | (dsimp only;omega) | (simp <;> omega)) | omega | (dsimp only;omega))) rfl rfl rfl rfl rfl ?_
    first
    | refine hq_g 63 7 56 true _ (fun hb=>hol_load ty_22 rfl (by first | exact Nat.le_of_ble_eq_true rfl | (simp at hb;first | omega | (dsimp only;omega) | (simp <;> omega)) | omega | (dsimp only;omega)) (by first | exact Nat.le_of_ble_eq_true rfl | (simp at hb;first | omega | (dsimp only;omega) | (simp <;> omega)) | omega | (dsimp only;omega)) (fun h=>(by first | rfl | cases h))) rfl rfl rfl rfl (pre1 rfl) rfl rfl rfl ?_
    | refine hq_g2 63 7 56 _ _ true _ (fun hb=>hol_load ty_22 rfl (by first | exact Nat.le_of_ble_eq_true rfl | (simp at hb;first | omega | (dsimp only;omega) | (simp <;> omega)) | omega | (dsimp only;omega)) (by first | exact Nat.le_of_ble_eq_true rfl | (simp at hb;first | omega | (dsimp only;omega) | (simp <;> omega)) | omega | (dsimp only;omega)) (fun h=>(by first | rfl | cases h))) rfl rfl rfl rfl (pre1 rfl) rfl rfl rfl ?_
    | refine stg 56 (fun hb=>hop_load_fp ty_22 rfl (by first | exact Nat.le_of_ble_eq_true rfl | (simp at hb;first | omega | (dsimp only;omega) | (simp <;> omega)) | omega | (dsimp only;omega)) (fun h=>(by first | rfl | cases h))) rfl rfl rfl rfl rfl ?_
    | refine sth 56 (fun hb=>hop_load_fp ty_22 rfl (by first | exact Nat.le_of_ble_eq_true rfl | (simp at hb;first | omega | (dsimp only;omega) | (simp <;> omega)) | omega | (dsimp only;omega)) (fun h=>(by first | rfl | cases h))) rfl rfl rfl rfl rfl ?_
    first
    | refine stg 56 (fun hb=>hop_len_sl (T:=22) rfl (elOf_spec el_22).1 rfl) rfl rfl rfl rfl rfl ?_
    | refine sth 56 (fun hb=>hop_len_sl (T:=22) rfl (elOf_spec el_22).1 rfl) rfl rfl rfl rfl rfl ?_
    | refine stg 56 (fun hb=>hop_len_os (T:=22) rfl (elOf_spec el_22).1 rfl) rfl rfl rfl rfl rfl ?_
    | refine sth 56 (fun hb=>hop_len_os (T:=22) rfl (elOf_spec el_22).1 rfl) rfl rfl rfl rfl rfl ?_
    | refine stg 56 (fun hb=>hop_len_nil (T:=22) rfl (elOf_spec el_22).1 rfl) rfl rfl rfl rfl rfl ?_
    | refine sth 56 (fun hb=>hop_len_nil (T:=22) rfl (elOf_spec el_22).1 rfl) rfl rfl rfl rfl rfl ?_
    first
    | refine stg 56 (fun hb=>hop_geq rfl rfl) rfl rfl rfl rfl rfl ?_
    | refine sth 56 (fun hb=>hop_geq rfl rfl) rfl rfl rfl rfl rfl ?_
    first
    | refine hq_p 66 (hstep_and _ _ rfl rfl rfl) rfl rfl rfl ?_
    | refine hq_p 66 (hstep_or _ _ rfl rfl rfl) rfl rfl rfl ?_
    | refine hq_p 66 (hstep_ite _ _ _ rfl rfl rfl) rfl rfl rfl ?_
    | refine hq_p 66 (hstep_pick _ _ _ _ rfl rfl rfl (fun _=>.refl _) (fun _=>.refl _)) rfl rfl rfl ?_
    refine nu ?_
    refine h20 _ ?_
    refine wc (fun hc3=>?_) (fun hc3=>?_)
    ·have hr3:=hc3;(try simp only [hcs,Int.reduceToNat] at hc3)
     have hu:=hit_only (samV a b) a.length b.length (fun _ _=>samV_lt) (by rw [hDe];exact hd) hon ⟨by rw [hf];omega,by rw [hf];omega⟩;rw [hDe] at hu;obtain rfl:d=D:=hu.1
     refine srg fun N h21=>sm<|sm ?_
     first
     | refine hq_ 69 (hop_nilcheck_pt rfl) rfl rfl pre0 rfl rfl ?_
     | refine hq_ 69 (hop_nilcheck_fp rfl) rfl rfl pre0 rfl rfl ?_
     first
     | refine hq_ 70 (hop_fa fd_77_2 rfl) rfl rfl pre0 rfl rfl ?_
     | refine hq_ 70 (hop_fa_fp fd_77_2 rfl (by first | exact Nat.le_of_ble_eq_true rfl | omega | (dsimp only;omega) | (simp <;> omega))) rfl rfl pre0 rfl rfl ?_
     first
     | refine hq_ 71 (hol_load ty_75 rfl (by first | exact Nat.le_of_ble_eq_true rfl | omega | (dsimp only;omega) | (simp <;> omega)) (by first | exact Nat.le_of_ble_eq_true rfl | omega | (dsimp only;omega) | (simp <;> omega)) (fun h=>(by first | rfl | cases h))) rfl rfl (pre1 rfl) rfl rfl ?_
     | refine hq_ 71 (hop_load_fp ty_75 rfl (by first | exact Nat.le_of_ble_eq_true rfl | omega | (dsimp only;omega) | (simp <;> omega)) (fun h=>(by first | rfl | cases h))) rfl rfl pre0 rfl rfl ?_
     refine sm ?_
     refine (hsub_shr 72 [(14,_)] rfl (preC rfl pre0) rfl ((fz_rowU (r':=rowAt (samV a b) a.length d (k+2)) (.head _) (fun i hi=>row_put hk1 hk3 hf rfl i)))).seq ?_
     refine hm_1 73 (hop_buildSlice (id:=73) (hs:=[_]) ei_75 omx rfl omx ⟨rfl,rfl,rfl,rfl,trivial⟩) rfl rfl pre0 rfl rfl (c':=c+2) rfl ?_
     first
     | refine hm_1 74 (hol_append ei_75 (by first | exact Nat.le_of_ble_eq_true rfl | omega | (dsimp only;omega) | (simp <;> omega)) rfl (by first | exact Nat.le_of_ble_eq_true rfl | omega | (dsimp only;omega) | (simp <;> omega)) (by first | exact Nat.le_of_ble_eq_true rfl | omega | (dsimp only;omega) | (simp <;> omega)) (srl_os0 rfl (by first | exact Nat.le_of_ble_eq_true rfl | omega | (dsimp only;omega) | (simp <;> omega))) (by first | exact Nat.le_of_ble_eq_true rfl | omega | (dsimp only;omega) | (simp <;> omega)) rfl) rfl rfl (preC rfl (pre1 rfl)) rfl rfl (c':=c+3) rfl ?_
     | refine hm_1 74 (hol_append ei_75 (by first | exact Nat.le_of_ble_eq_true rfl | omega | (dsimp only;omega) | (simp <;> omega)) rfl (by first | exact Nat.le_of_ble_eq_true rfl | omega | (dsimp only;omega) | (simp <;> omega)) (by first | exact Nat.le_of_ble_eq_true rfl | omega | (dsimp only;omega) | (simp <;> omega)) (srl_os rfl (by first | exact Nat.le_of_ble_eq_true rfl | omega | (dsimp only;omega) | (simp <;> omega))) (by first | exact Nat.le_of_ble_eq_true rfl | omega | (dsimp only;omega) | (simp <;> omega)) rfl) rfl rfl (preC rfl (pre1 rfl)) rfl rfl (c':=c+3) rfl ?_
     | refine hm_1 74 (hol_append ei_75 (by first | exact Nat.le_of_ble_eq_true rfl | omega | (dsimp only;omega) | (simp <;> omega)) rfl (by first | exact Nat.le_of_ble_eq_true rfl | omega | (dsimp only;omega) | (simp <;> omega)) (by first | exact Nat.le_of_ble_eq_true rfl | omega | (dsimp only;omega) | (simp <;> omega)) (src_sl rfl) (by first | exact Nat.le_of_ble_eq_true rfl | omega | (dsimp only;omega) | (simp <;> omega)) rfl) rfl rfl (preC rfl pre0) rfl rfl (c':=c+3) rfl ?_
     | refine hm_1 74 (hol_append ei_75 (by first | exact Nat.le_of_ble_eq_true rfl | omega | (dsimp only;omega) | (simp <;> omega)) rfl (by first | exact Nat.le_of_ble_eq_true rfl | omega | (dsimp only;omega) | (simp <;> omega)) (by first | exact Nat.le_of_ble_eq_true rfl | omega | (dsimp only;omega) | (simp <;> omega)) (src_nil 1 (fun _ _=>default) rfl) (by first | exact Nat.le_of_ble_eq_true rfl | omega | (dsimp only;omega) | (simp <;> omega)) rfl) rfl rfl (preC rfl pre0) rfl rfl (c':=c+3) rfl ?_
     first
     | refine hq_ 75 (hop_nilcheck_pt rfl) rfl rfl pre0 rfl rfl ?_
     | refine hq_ 75 (hop_nilcheck_fp rfl) rfl rfl pre0 rfl rfl ?_
     first
     | refine hq_ 76 (hop_fa fd_77_2 rfl) rfl rfl pre0 rfl rfl ?_
     | refine hq_ 76 (hop_fa_fp fd_77_2 rfl (by first | exact Nat.le_of_ble_eq_true rfl | omega | (dsimp only;omega) | (simp <;> omega))) rfl rfl pre0 rfl rfl ?_
     first
     | refine hm_s1 (hol_storeW ty_75 rfl rfl rfl rfl) rfl rfl (pre1 rfl) (c':=c+4) rfl ?_
     | refine hm_s1 (hol_store ty_75 rfl rfl rfl rfl (by first | exact Nat.le_of_ble_eq_true rfl | omega | (dsimp only;omega) | (simp <;> omega)) (by first | exact Nat.le_of_ble_eq_true rfl | omega | (dsimp only;omega) | (simp <;> omega)) (by first | exact Nat.le_of_ble_eq_true rfl | omega | (dsimp only;omega) | (simp <;> omega))) rfl rfl (pre1 rfl) (c':=c+4) rfl ?_
     refine snl h21<|srg fun N h22=>sa<|snl h22<|hw_ret<|hq_block_ret<|hq_then_ret<|hq_then_ret<|hq_block_ret<|hq_then_ret<|hq_block_ret<|hq_then_ret<|hq_then_ret<|hq_block_ret<|hq_then_ret ?_
     refine hf_retR1 ok hX RetS.one rfl (rval_tmp rfl) [] rfl pre0 ((c+2,snocR R d (rowAt (samV a b) a.length d (k+2)))) ((fun i hi=>by rw [hDe] at hi;show (if i < d then _ else _)=_;rw [if_pos hi,hR i hi])) (by rfl) (by rfl) (kza) ?_
     exact ⟨⟨_,rfl,okz_finU rfl rfl rfl rfl rfl⟩,⟨⟨_,rfl,okz_rowsU (fun i hi=>rows_snoc i hi)⟩,trivial⟩⟩
    have hr3:=hc3;(try simp only [hcs,Int.reduceToNat] at hc3)
    have hn3:¬ hit (samV a b) a.length b.length d k:=(fun hh=>by have h1:=hh.1;have h2:=hh.2;rw [hf] at h1 h2;simp only [Bool.and_eq_false_iff,decide_eq_false_iff_not] at hc3;omega)
    refine hw_skip<|hq_block<|h14 _<|hw_region<|sm ?_
    first
    | refine hq_ 21 (hop_addi rfl rfl rfl (by first | exact Nat.le_of_ble_eq_true rfl | omega | (dsimp only;omega) | (simp <;> omega)) (by first | exact Nat.le_of_ble_eq_true rfl | omega | (dsimp only;omega) | (simp <;> omega))) rfl rfl pre0 rfl rfl ?_
    | refine hq_ 21 (hop_add rfl rfl) rfl rfl pre0 rfl rfl ?_
    refine sa<|hseq_nil ?_
    exact hL11 (k+2) _ _ (by (try dsimp only);exact ⟨by omega,by omega,by omega,fun k' h1 h2=>by by_cases e:k' < k;(exact hno k' h1 e);(obtain rfl:k'=k:=(by obtain ⟨_,_,h3⟩:=h1;omega);exact hn3)⟩) (by (try dsimp only);omega) (hsub_of rfl (Nat.le_refl _) tsa (hsr rfl (hsr rfl (HpSub.cons rfl (OSub.of fun i j hi hj=>by obtain rfl:j=0:=om;rw [row_put hk1 hk3 hf rfl i];exact .refl _) HpSub.nil))))
  have hr1:=hc1;(try simp only [hcs,Int.reduceToNat] at hc1)
  obtain rfl:k=(d:Int)+2:=om;have hne:=hit_none (d:=d) (fun _ _=>samV_lt (a:=a) (b:=b)) (fun k' h1=>hno k' h1 (by have:=h1.2.1;omega));rw [hDe] at hne
  refine hw_exit ?_
  refine hq_then_exit<|hq_then_exit<|hq_block_here<|h9 _<|hw_region<|sm<|sm ?_
  first
  | refine hq_ 79 (hop_nilcheck_pt rfl) rfl rfl pre0 rfl rfl ?_
  | refine hq_ 79 (hop_nilcheck_fp rfl) rfl rfl pre0 rfl rfl ?_
  first
  | refine hq_ 80 (hop_fa fd_77_2 rfl) rfl rfl pre0 rfl rfl ?_
  | refine hq_ 80 (hop_fa_fp fd_77_2 rfl (by first | exact Nat.le_of_ble_eq_true rfl | omega | (dsimp only;omega) | (simp <;> omega))) rfl rfl pre0 rfl rfl ?_
  first
  | refine hq_ 81 (hol_load ty_75 rfl (by first | exact Nat.le_of_ble_eq_true rfl | omega | (dsimp only;omega) | (simp <;> omega)) (by first | exact Nat.le_of_ble_eq_true rfl | omega | (dsimp only;omega) | (simp <;> omega)) (fun h=>(by first | rfl | cases h))) rfl rfl (pre1 rfl) rfl rfl ?_
  | refine hq_ 81 (hop_load_fp ty_75 rfl (by first | exact Nat.le_of_ble_eq_true rfl | omega | (dsimp only;omega) | (simp <;> omega)) (fun h=>(by first | rfl | cases h))) rfl rfl pre0 rfl rfl ?_
  refine sm ?_
  refine (hsub_shr 82 [(14,_)] rfl (preC rfl pre0) rfl ((fz_rowU (r':=full (samV a b) a.length d) (.head _) (fun i hi=>rfl)))).seq ?_
  refine hm_1 83 (hop_buildSlice (id:=83) (hs:=[_]) ei_75 omx rfl omx ⟨rfl,rfl,rfl,rfl,trivial⟩) rfl rfl pre0 rfl rfl (c':=c+1) rfl ?_
  first
  | refine hm_1 84 (hol_append ei_75 (by first | exact Nat.le_of_ble_eq_true rfl | omega | (dsimp only;omega) | (simp <;> omega)) rfl (by first | exact Nat.le_of_ble_eq_true rfl | omega | (dsimp only;omega) | (simp <;> omega)) (by first | exact Nat.le_of_ble_eq_true rfl | omega | (dsimp only;omega) | (simp <;> omega)) (srl_os0 rfl (by first | exact Nat.le_of_ble_eq_true rfl | omega | (dsimp only;omega) | (simp <;> omega))) (by first | exact Nat.le_of_ble_eq_true rfl | omega | (dsimp only;omega) | (simp <;> omega)) rfl) rfl rfl (preC rfl (pre1 rfl)) rfl rfl (c':=c+2) rfl ?_
  | refine hm_1 84 (hol_append ei_75 (by first | exact Nat.le_of_ble_eq_true rfl | omega | (dsimp only;omega) | (simp <;> omega)) rfl (by first | exact Nat.le_of_ble_eq_true rfl | omega | (dsimp only;omega) | (simp <;> omega)) (by first | exact Nat.le_of_ble_eq_true rfl | omega | (dsimp only;omega) | (simp <;> omega)) (srl_os rfl (by first | exact Nat.le_of_ble_eq_true rfl | omega | (dsimp only;omega) | (simp <;> omega))) (by first | exact Nat.le_of_ble_eq_true rfl | omega | (dsimp only;omega) | (simp <;> omega)) rfl) rfl rfl (preC rfl (pre1 rfl)) rfl rfl (c':=c+2) rfl ?_
  | refine hm_1 84 (hol_append ei_75 (by first | exact Nat.le_of_ble_eq_true rfl | omega | (dsimp only;omega) | (simp <;> omega)) rfl (by first | exact Nat.le_of_ble_eq_true rfl | omega | (dsimp only;omega) | (simp <;> omega)) (by first | exact Nat.le_of_ble_eq_true rfl | omega | (dsimp only;omega) | (simp <;> omega)) (src_sl rfl) (by first | exact Nat.le_of_ble_eq_true rfl | omega | (dsimp only;omega) | (simp <;> omega)) rfl) rfl rfl (preC rfl pre0) rfl rfl (c':=c+2) rfl ?_
  | refine hm_1 84 (hol_append ei_75 (by first | exact Nat.le_of_ble_eq_true rfl | omega | (dsimp only;omega) | (simp <;> omega)) rfl (by first | exact Nat.le_of_ble_eq_true rfl | omega | (dsimp only;omega) | (simp <;> omega)) (by first | exact Nat.le_of_ble_eq_true rfl | omega | (dsimp only;omega) | (simp <;> omega)) (src_nil 1 (fun _ _=>default) rfl) (by first | exact Nat.le_of_ble_eq_true rfl | omega | (dsimp only;omega) | (simp <;> omega)) rfl) rfl rfl (preC rfl pre0) rfl rfl (c':=c+2) rfl ?_
  first
  | refine hq_ 85 (hop_nilcheck_pt rfl) rfl rfl pre0 rfl rfl ?_
  | refine hq_ 85 (hop_nilcheck_fp rfl) rfl rfl pre0 rfl rfl ?_
  first
  | refine hq_ 86 (hop_fa fd_77_2 rfl) rfl rfl pre0 rfl rfl ?_
  | refine hq_ 86 (hop_fa_fp fd_77_2 rfl (by first | exact Nat.le_of_ble_eq_true rfl | omega | (dsimp only;omega) | (simp <;> omega))) rfl rfl pre0 rfl rfl ?_
  first
  | refine hm_s1 (hol_storeW ty_75 rfl rfl rfl rfl) rfl rfl (pre1 rfl) (c':=c+3) rfl ?_
  | refine hm_s1 (hol_store ty_75 rfl rfl rfl rfl (by first | exact Nat.le_of_ble_eq_true rfl | omega | (dsimp only;omega) | (simp <;> omega)) (by first | exact Nat.le_of_ble_eq_true rfl | omega | (dsimp only;omega) | (simp <;> omega)) (by first | exact Nat.le_of_ble_eq_true rfl | omega | (dsimp only;omega) | (simp <;> omega))) rfl rfl (pre1 rfl) (c':=c+3) rfl ?_
  refine hseq_nil<|hq_block<|h7 _<|hw_region<|sm ?_
  first
  | refine hq_ 10 (hop_addi rfl rfl rfl (by first | exact Nat.le_of_ble_eq_true rfl | omega | (dsimp only;omega) | (simp <;> omega)) (by first | exact Nat.le_of_ble_eq_true rfl | omega | (dsimp only;omega) | (simp <;> omega))) rfl rfl pre0 rfl rfl ?_
  | refine hq_ 10 (hop_add rfl rfl) rfl rfl pre0 rfl rfl ?_
  refine sa<|hseq_nil ?_
  exact hL4 ((d+1,c+1,snocR R d (full (samV a b) a.length d))) _ _ (by (try dsimp only);exact ⟨by omega,fun i hi=>by show (if i < d then _ else _)=_;by_cases h:i < d;(rw [if_pos h,hR i h]);(rw [if_neg h];obtain rfl:i=d:=om;rfl)⟩) (by (try dsimp only);omega) (hsub_of rfl (Nat.le_refl _) tsa (HpSub.cons rfl (OSub.of fun i j hi hj=>by obtain rfl:i=0:=om;match j,hj with | 0,_=>exact .refl _ | 1,_=>exact .refl _ | 2,_=>exact .refl _) (HpSub.cons rfl (osub_rowsU (fun i hi=>rows_snoc i hi)) HpSub.nil)))
 have hr0:=hc0;(try simp only [hcs,Int.reduceToNat] at hc0)
 exfalso;omega
def pairF (p:Nat×Nat):Nat→HV
 | 0=>intV (p.1:Int)
 | _=>intV (p.2:Int)
@[reducible] def pairsF (l:List (Nat×Nat)):Nat→Nat→HV:=fun i=>pairF (l.getD i (0,0))
@[reducible] def pairsV (l:List (Nat×Nat)):HV:=.sl 2 l.length (pairsF l)
@[reducible] def pairsO (g:Nat) (l:List (Nat×Nat)):HObj:=⟨g,l.length,2,85,0,pairsF l⟩
theorem fz_pairF {sh:List (Nat×HObj)} (p:Nat×Nat) (j:Nat):Fz sh (pairF p j) (pairF p j):=by unfold pairF;split <;> exact .imm _
instance (p:Nat×Nat) (j:Nat):Frz (pairF p j):=⟨fz_pairF p j⟩
def revI (l:List (Nat×Nat)) (i j:Nat):Nat×Nat:=if j < i∨l.length≤j+i then l.getD (l.length - 1 - j) (0,0) else l.getD j (0,0)
theorem revI_all (l:List (Nat×Nat)) {i:Nat} (h:l.length≤2 * i+1) (j:Nat) (hj:j < l.length):revI l i j=l.reverse.getD j (0,0):=by
 have e:l.reverse.getD j (0,0)=l.getD (l.length - 1 - j) (0,0):=by
  rw [List.getD_eq_getElem?_getD,List.getD_eq_getElem?_getD,List.getElem?_reverse hj]
 rw [e];unfold revI
 split
 ·rfl
 ·rename_i h'
  have:j=l.length - 1 - j:=by omega
  rw [←this]
theorem upd2 {F:Nat→Nat→HV} {q k j:Nat} {x:Nat→HV} (hj:j < 2):upd F q 0 2 x k j=if k=q then x j else F k j:=by
 unfold upd inb
 have h0:(Nat.ble 0 j&&Nat.blt j (0+2))=true:=by simp [hj]
 by_cases e:k=q
 ·subst e
  have:Nat.beq k k=true:=by simp
  rw [h0,this,if_pos rfl];rfl
 ·have:Nat.beq k q=false:=(by rw [Bool.eq_false_iff];intro h;exact e (Nat.eq_of_beq_eq_true h))
  rw [this,if_neg e];rfl
theorem rev_step {l:List (Nat×Nat)} {i a b:Nat} {z1 z2:Nat→HV} (h:2 * i+1 < l.length) (ha:a=i) (hb:b=l.length - 1 - i) (h1:∀ q,q < 2→z1 q=pairF (revI l i b) q) (h2:∀ q,q < 2→z2 q=pairF (revI l i a) q) (j q:Nat) (hj:j < l.length) (hq:q < 2) :
  upd (upd (fun j=>pairF (revI l i j)) a 0 2 z1) b 0 2 z2 j q=pairF (revI l (i+1) j) q:=by
 rw [upd2 hq]
 by_cases e:j=b
 ·rw [if_pos e,h2 q hq,ha]
  unfold revI
  rw [if_neg (by omega),if_pos (by omega),e,hb]
  congr 2;omega
 ·rw [if_neg e,upd2 hq]
  by_cases e2:j=a
  ·rw [if_pos e2,h1 q hq]
   unfold revI
   rw [if_neg (by omega),if_pos (by omega),e2,hb,ha]
  ·rw [if_neg e2]
   unfold revI
   by_cases h3:j < i∨l.length≤j+i
   ·rw [if_pos h3,if_pos (by omega)]
   ·rw [if_neg h3,if_neg (by omega)]
theorem sb_intV {x y:Int} (h:x=y):Sb (intV x) (intV y):=by subst h;exact .refl _
theorem fz_intV {sh:List (Nat×HObj)} {x y:Int} (h:x=y):Fz sh (intV x) (intV y):=by subst h;exact .imm _
theorem okz_rev {kp sh:List (Nat×HObj)} {g i:Nat} {l:List (Nat×Nat)} (h:l.length≤2 * i+1):OKz kp sh ⟨g,l.length,2,85,0,fun j=>pairF (revI l i j)⟩ (pairsO g l.reverse):=by
 refine ⟨rfl,by simp,rfl,rfl,Nat.le_refl _,fun j q hj hq=>?_,fun h=>absurd h (Nat.not_lt_zero _)⟩
 show Kz kp sh (pairF (revI l i j) q) (pairF (l.reverse.getD j (0,0)) q)
 rw [revI_all l h j hj];exact .fz _ _ (fz_pairF _ _)
theorem reverse_h (l:List (Nat×Nat)) (hl:l.length≤100000) (g:Nat) :
  HFunD Try.prog 58 [.os 9003 g 0 l.length] [(9003,pairsO g l)] (.tup 0 fun _=>default) [(9003,pairsO g l.reverse)]:=by
 intro c
 refine hfun_of Try.func58 rfl kr _ _ _ _ rfl 28 rfl rfl (fun X ok hX=>?_)
 refine srg fun N h1=>sm ?_
 first
 | refine hq_ 5 (hop_len_sl (T:=78) rfl (elOf_spec el_78).1 rfl) rfl rfl pre0 rfl rfl ?_
 | refine hq_ 5 (hop_len_os (T:=78) rfl (elOf_spec el_78).1 rfl) rfl rfl pre0 rfl rfl ?_
 | refine hq_ 5 (hop_len_nil (T:=78) rfl (elOf_spec el_78).1 rfl) rfl rfl pre0 rfl rfl ?_
 first
 | refine hq_ 6 (hop_subi rfl rfl rfl (by first | exact Nat.le_of_ble_eq_true rfl | omega | (dsimp only;omega) | (simp <;> omega)) (by first | exact Nat.le_of_ble_eq_true rfl | omega | (dsimp only;omega) | (simp <;> omega))) rfl rfl pre0 rfl rfl ?_
 | refine hq_ 6 (hop_sub rfl rfl) rfl rfl pre0 rfl rfl ?_
 refine sa<|sa<|snl h1<|hw_block ?_
 refine hw_loopc (α:=Nat) (fun x c=>⟨28,[(0,.v (.os 9003 g 0 l.length)),(2,.v (intV (x:Int))),(3,.v (intV ((l.length:Int) - 1 - x)))],[(9003,⟨g,l.length,2,85,0,fun j=>pairF (revI l x j)⟩)],c⟩) (fun x=>2 * x≤l.length+1) (fun x=>l.length - x) (0) om (hsub_of rfl (Nat.le_refl _) (tsr rfl (tsr rfl (TmSub.cons rfl (sb_intV om) TmSub.nil))) (HpSub.cons rfl (OSub.of fun j q hj hq=>by show Sb (pairF (l.getD j (0,0)) q) (pairF (revI l 0 j) q);unfold revI;rw [if_neg om];exact .refl _) HpSub.nil)) (fun i c hx NhL2 hL2=>?_)
 (try dsimp only at hx hL2 ⊢)
 refine hw_seq fun Nh3 h3=>srg fun N h4=>sm<|sm ?_
 refine s0 hli ?_
 refine snl h4 ?_
 refine wc (fun hc0=>?_) (fun hc0=>?_)
 ·have hr0:=hc0;(try simp only [hcs,Int.reduceToNat] at hc0)
  have hlt:2 * i+1 < l.length:=by omega
  refine hw_skip<|h3 _<|hw_seq fun Nh5 h5=>hw_block<|hd_start ?_
  refine dm 1 ?_
  refine dm 2 ?_
  refine dm 3 ?_
  refine dm 4 ?_
  refine dm 5 ?_
  refine dm 6 ?_
  first
  | refine hd_q 20 (hop_ia_sl el_78 rfl rfl (by first | exact Nat.le_of_ble_eq_true rfl | omega | (dsimp only;omega) | (simp <;> omega)) (by first | exact Nat.le_of_ble_eq_true rfl | omega | (dsimp only;omega) | (simp <;> omega)) (by first | exact Nat.le_of_ble_eq_true rfl | omega | (dsimp only;omega) | (simp <;> omega))) rfl rfl pre0 rfl rfl (k':=7) rfl ?_
  | refine hd_q 20 (hol_ia_os el_78 rfl rfl (by first | exact Nat.le_of_ble_eq_true rfl | omega | (dsimp only;omega) | (simp <;> omega)) (by first | exact Nat.le_of_ble_eq_true rfl | omega | (dsimp only;omega) | (simp <;> omega))) rfl rfl (pre1 rfl) rfl rfl (k':=7) rfl ?_
  first
  | refine hd_q 21 (hol_load ty_85 rfl (by first | exact Nat.le_of_ble_eq_true rfl | omega | (dsimp only;omega) | (simp <;> omega)) (by first | exact Nat.le_of_ble_eq_true rfl | omega | (dsimp only;omega) | (simp <;> omega)) (fun h=>(by first | rfl | cases h))) rfl rfl (pre1 rfl) rfl rfl (k':=8) rfl ?_
  | refine hd_q 21 (hop_load_fp ty_85 rfl (by first | exact Nat.le_of_ble_eq_true rfl | omega | (dsimp only;omega) | (simp <;> omega)) (fun h=>(by first | rfl | cases h))) rfl rfl pre0 rfl rfl (k':=8) rfl ?_
  refine dm 9 ?_
  refine dm 10 ?_
  first
  | refine hd_q 24 (hop_ia_sl el_78 rfl rfl (by first | exact Nat.le_of_ble_eq_true rfl | omega | (dsimp only;omega) | (simp <;> omega)) (by first | exact Nat.le_of_ble_eq_true rfl | omega | (dsimp only;omega) | (simp <;> omega)) (by first | exact Nat.le_of_ble_eq_true rfl | omega | (dsimp only;omega) | (simp <;> omega))) rfl rfl pre0 rfl rfl (k':=11) rfl ?_
  | refine hd_q 24 (hol_ia_os el_78 rfl rfl (by first | exact Nat.le_of_ble_eq_true rfl | omega | (dsimp only;omega) | (simp <;> omega)) (by first | exact Nat.le_of_ble_eq_true rfl | omega | (dsimp only;omega) | (simp <;> omega))) rfl rfl (pre1 rfl) rfl rfl (k':=11) rfl ?_
  first
  | refine hd_q 25 (hol_load ty_85 rfl (by first | exact Nat.le_of_ble_eq_true rfl | omega | (dsimp only;omega) | (simp <;> omega)) (by first | exact Nat.le_of_ble_eq_true rfl | omega | (dsimp only;omega) | (simp <;> omega)) (fun h=>(by first | rfl | cases h))) rfl rfl (pre1 rfl) rfl rfl (k':=12) rfl ?_
  | refine hd_q 25 (hop_load_fp ty_85 rfl (by first | exact Nat.le_of_ble_eq_true rfl | omega | (dsimp only;omega) | (simp <;> omega)) (fun h=>(by first | rfl | cases h))) rfl rfl pre0 rfl rfl (k':=12) rfl ?_
  first
  | refine hd_q 26 (hop_ia_sl el_78 rfl rfl (by first | exact Nat.le_of_ble_eq_true rfl | omega | (dsimp only;omega) | (simp <;> omega)) (by first | exact Nat.le_of_ble_eq_true rfl | omega | (dsimp only;omega) | (simp <;> omega)) (by first | exact Nat.le_of_ble_eq_true rfl | omega | (dsimp only;omega) | (simp <;> omega))) rfl rfl pre0 rfl rfl (k':=13) rfl ?_
  | refine hd_q 26 (hol_ia_os el_78 rfl rfl (by first | exact Nat.le_of_ble_eq_true rfl | omega | (dsimp only;omega) | (simp <;> omega)) (by first | exact Nat.le_of_ble_eq_true rfl | omega | (dsimp only;omega) | (simp <;> omega))) rfl rfl (pre1 rfl) rfl rfl (k':=13) rfl ?_
  first
  | refine hd_s1 (hol_storeW ty_85 rfl rfl rfl rfl) rfl rfl (pre1 rfl) (k':=14) rfl ?_
  | refine hd_s1 (hol_store ty_85 rfl rfl rfl rfl (by first | exact Nat.le_of_ble_eq_true rfl | omega | (dsimp only;omega) | (simp <;> omega)) (by first | exact Nat.le_of_ble_eq_true rfl | omega | (dsimp only;omega) | (simp <;> omega)) (by first | exact Nat.le_of_ble_eq_true rfl | omega | (dsimp only;omega) | (simp <;> omega))) rfl rfl (pre1 rfl) (k':=14) rfl ?_
  first
  | refine hd_q 27 (hop_ia_sl el_78 rfl rfl (by first | exact Nat.le_of_ble_eq_true rfl | omega | (dsimp only;omega) | (simp <;> omega)) (by first | exact Nat.le_of_ble_eq_true rfl | omega | (dsimp only;omega) | (simp <;> omega)) (by first | exact Nat.le_of_ble_eq_true rfl | omega | (dsimp only;omega) | (simp <;> omega))) rfl rfl pre0 rfl rfl (k':=15) rfl ?_
  | refine hd_q 27 (hol_ia_os el_78 rfl rfl (by first | exact Nat.le_of_ble_eq_true rfl | omega | (dsimp only;omega) | (simp <;> omega)) (by first | exact Nat.le_of_ble_eq_true rfl | omega | (dsimp only;omega) | (simp <;> omega))) rfl rfl (pre1 rfl) rfl rfl (k':=15) rfl ?_
  first
  | refine hd_s1 (hol_storeW ty_85 rfl rfl rfl rfl) rfl rfl (pre1 rfl) (k':=16) rfl ?_
  | refine hd_s1 (hol_store ty_85 rfl rfl rfl rfl (by first | exact Nat.le_of_ble_eq_true rfl | omega | (dsimp only;omega) | (simp <;> omega)) (by first | exact Nat.le_of_ble_eq_true rfl | omega | (dsimp only;omega) | (simp <;> omega)) (by first | exact Nat.le_of_ble_eq_true rfl | omega | (dsimp only;omega) | (simp <;> omega))) rfl rfl (pre1 rfl) (k':=16) rfl ?_
  refine hd_nil kr kr (c':=c+16) rfl ?_
  refine hq_block<|h5 _<|hw_region<|sm ?_
  first
  | refine hq_ 11 (hop_addi rfl rfl rfl (by first | exact Nat.le_of_ble_eq_true rfl | omega | (dsimp only;omega) | (simp <;> omega)) (by first | exact Nat.le_of_ble_eq_true rfl | omega | (dsimp only;omega) | (simp <;> omega))) rfl rfl pre0 rfl rfl ?_
  | refine hq_ 11 (hop_add rfl rfl) rfl rfl pre0 rfl rfl ?_
  refine sm ?_
  first
  | refine hq_ 13 (hop_subi rfl rfl rfl (by first | exact Nat.le_of_ble_eq_true rfl | omega | (dsimp only;omega) | (simp <;> omega)) (by first | exact Nat.le_of_ble_eq_true rfl | omega | (dsimp only;omega) | (simp <;> omega))) rfl rfl pre0 rfl rfl ?_
  | refine hq_ 13 (hop_sub rfl rfl) rfl rfl pre0 rfl rfl ?_
  refine sa<|sa<|hseq_nil ?_
  exact hL2 (i+1) _ _ (by (try dsimp only);omega) (by (try dsimp only);omega) (hsub_of rfl (Nat.le_refl _) (tsr rfl (tsr rfl (TmSub.cons rfl (sb_intV om) TmSub.nil))) (HpSub.cons rfl (OSub.of fun j q hj hq=>by rw [rev_step hlt om om (fun q hq=>by match q,hq with | 0,_=>rfl | 1,_=>rfl) (fun q hq=>by match q,hq with | 0,_=>rfl | 1,_=>rfl) j q hj hq];exact .refl _) HpSub.nil))
 have hr0:=hc0;(try simp only [hcs,Int.reduceToNat] at hc0)
 refine hw_exit ?_
 refine hq_then_exit<|hq_then_exit<|hq_block_here ?_
 refine hq_fall ?_
 refine hf_retR0 ok hX RetS.one rfl  [] rfl pre0 (()) (trivial) (by rfl) (by rfl) (kza) ?_
 exact ⟨⟨_,rfl,(by exact okz_rev om)⟩,trivial⟩
section
variable (s:Nat→Nat→Bool) (N D:Nat) (Wh:List (Nat×Nat))
def Left (n X:Nat) (Y:Int) (l:List (Nat×Nat)):Prop:=(n=0∧l=Wh)∨∃ e k,n=e+1∧e≤D∧onD e k∧X=far s N e k∧Y=(X:Int) - k∧l++kps s N e k=Wh
theorem Left.len {n X:Nat} {Y:Int} {l:List (Nat×Nat)} (h:Left s N D Wh n X Y l):l.length≤Wh.length:=by
 rcases h with ⟨_,rfl⟩ | ⟨e,k,_,_,_,_,_,rfl⟩
 ·exact Nat.le_refl _
 ·rw [List.length_append];omega
theorem left_zero {l:List (Nat×Nat)} (hl:l++kps s N 0 0=Wh):Left s N D Wh 0 0 0 (l++dn 0 0 (far s N 0 0)):=.inl ⟨rfl,hl⟩
theorem left_down {e:Nat} {k:Int} {l:List (Nat×Nat)} (hon:onD (e+1) k) (he:e+1≤D) (hd:(bst (far s N e) (e+1) k).2=true) (hl:l++kps s N (e+1) k=Wh) :
  Left s N D Wh (e+1) (bst (far s N e) (e+1) k).1 (((bst (far s N e) (e+1) k).1:Int) - k - 1) (l++dn (bst (far s N e) (e+1) k).1 k (far s N (e+1) k - (bst (far s N e) (e+1) k).1)):=by
 refine .inr ⟨e,k+1,rfl,by omega,bst_down_on hon hd,by rw [bst_down hd],by omega,?_⟩
 rw [←hl]
 show _=l++(dn (bst (far s N e) (e+1) k).1 k (far s N (e+1) k - (bst (far s N e) (e+1) k).1)++kps s N e (if (bst (far s N e) (e+1) k).2=true then k+1 else k - 1))
 rw [if_pos hd,List.append_assoc]
theorem left_right {e:Nat} {k:Int} {l:List (Nat×Nat)} (hon:onD (e+1) k) (he:e+1≤D) (hd:(bst (far s N e) (e+1) k).2=false) (hl:l++kps s N (e+1) k=Wh) :
  1≤(bst (far s N e) (e+1) k).1∧Left s N D Wh (e+1) ((bst (far s N e) (e+1) k).1 - 1) (((bst (far s N e) (e+1) k).1:Int) - k) (l++dn (bst (far s N e) (e+1) k).1 k (far s N (e+1) k - (bst (far s N e) (e+1) k).1)):=by
 have e1:(bst (far s N e) (e+1) k).1=far s N e (k - 1)+1:=by rw [bst_right hd]
 refine ⟨by omega,.inr ⟨e,k - 1,rfl,by omega,bst_right_on hon hd,by omega,by omega,?_⟩⟩
 rw [←hl]
 show _=l++(dn (bst (far s N e) (e+1) k).1 k (far s N (e+1) k - (bst (far s N e) (e+1) k).1)++kps s N e (if (bst (far s N e) (e+1) k).2=true then k+1 else k - 1))
 rw [if_neg (by rw [hd];decide),List.append_assoc]
end
def finQ (a b:List Tok) (D:Nat) (R:Nat→Nat→Nat):Nat→HV:=fun j=>match j with | 0=>toksV a | 1=>toksV b | _=>.sl 1 D (rowsF R)
@[reducible] def finV (a b:List Tok) (D:Nat) (R:Nat→Nat→Nat):HV:=.fp 3 (finQ a b D R)
theorem fz_pairs {sh:List (Nat×HObj)} {g:Nat} {l':List (Nat×Nat)} {F:Nat→Nat→HV} {n on fl:Nat} {ty:TypeId} (ho:(9003,⟨g,on,2,ty,fl,F⟩)∈sh) (hon:n≤on) (hn:n=l'.length) (hF:∀ i j,i < n→j < 2→F i j=pairF (l'.getD i (0,0)) j):Fz sh (.os 9003 g 0 n) (pairsV l'):=by
 subst hn
 refine Fz.os 9003 g 0 _ _ _ ho rfl (by show 0+l'.length≤on;omega) (fun i j hi hj=>?_)
 show Fz sh (F (0+i) j) (pairF (l'.getD i (0,0)) j)
 rw [Nat.zero_add,hF i j hi hj];exact fz_pairF _ _
theorem pairs_snoc {l:List (Nat×Nat)} {m:Nat} (hm:l.length=m) {p:Nat×Nat} {h:HV} (h0:h.cell 0=intV (p.1:Int)) (h1:h.cell 1=intV (p.2:Int)) (i j:Nat) (hi:i < m+1) (hj:j < 2):Sb (cat m (pairsF l) (bsf [h]) i j) (pairF ((l++[p]).getD i (0,0)) j):=by
 subst hm
 refine sb_cat (enc:=pairF) (d:=(0,0)) (k:=[p]) rfl (fun _ _ _ _=>.refl _) (sb_one (fun j hj=>?_)) i j (by simpa using hi) hj
 match j,hj with
 | 0,_=>show Sb (h.cell 0) _;rw [h0];exact .refl _
 | 1,_=>show Sb (h.cell 1) _;rw [h1];exact .refl _
theorem keeps_h (a b:List Tok) (ha:a.length≤150) (hb:b.length≤150) (R:Nat→Nat→Nat) (hR:Found a b R) :
  HPure Try.prog 38 [finV a b (fewest (samV a b) a.length b.length+1) R] (pairsV (keepV (samV a b) a.length b.length)):=by
 have hD:=fewest_le (samV a b) a.length b.length
 have hs:∀ i k,samV a b i k=true→i < a.length∧k < b.length:=fun _ _=>samV_lt
 obtain ⟨hon0,hhit0⟩:=hit_last (samV a b) a.length b.length hs
 have hu0:=hit_only (samV a b) a.length b.length hs (Nat.le_refl _) hon0 hhit0
 unfold Found at hR
 unfold keepV
 generalize hDe:fewest (samV a b) a.length b.length=D at *
 generalize hWe:kps (samV a b) a.length D ((a.length:Int) - b.length)=Wh
 have hWl:Wh.length≤1000:=by have h9:=kps_len (samV a b) a.length D _ hon0;rw [hWe,hu0.2.1] at h9;omega
 refine hpure_of Try.func38 rfl kr _ _ _ rfl 89 rfl rfl (fun w F=>?_)
 refine srg fun N h1=>sa<|snl h1<|srg fun N h2=>sa<|snl h2<|hw_seq fun Nh3 h3=>hd_start ?_
 refine dm 1 ?_
 first
 | refine hd_q 15 (hop_nilcheck_pt rfl) rfl rfl pre0 rfl rfl (k':=2) rfl ?_
 | refine hd_q 15 (hop_nilcheck_fp rfl) rfl rfl pre0 rfl rfl (k':=2) rfl ?_
 first
 | refine hd_q 16 (hop_fa fd_77_0 rfl) rfl rfl pre0 rfl rfl (k':=3) rfl ?_
 | refine hd_q 16 (hop_fa_fp fd_77_0 rfl (by first | exact Nat.le_of_ble_eq_true rfl | omega | (dsimp only;omega) | (simp <;> omega))) rfl rfl pre0 rfl rfl (k':=3) rfl ?_
 first
 | refine hd_q 17 (hol_load ty_22 rfl (by first | exact Nat.le_of_ble_eq_true rfl | omega | (dsimp only;omega) | (simp <;> omega)) (by first | exact Nat.le_of_ble_eq_true rfl | omega | (dsimp only;omega) | (simp <;> omega)) (fun h=>(by first | rfl | cases h))) rfl rfl (pre1 rfl) rfl rfl (k':=4) rfl ?_
 | refine hd_q 17 (hop_load_fp ty_22 rfl (by first | exact Nat.le_of_ble_eq_true rfl | omega | (dsimp only;omega) | (simp <;> omega)) (fun h=>(by first | rfl | cases h))) rfl rfl pre0 rfl rfl (k':=4) rfl ?_
 first
 | refine hd_q 18 (hop_len_sl (T:=22) rfl (elOf_spec el_22).1 rfl) rfl rfl pre0 rfl rfl (k':=5) rfl ?_
 | refine hd_q 18 (hop_len_os (T:=22) rfl (elOf_spec el_22).1 rfl) rfl rfl pre0 rfl rfl (k':=5) rfl ?_
 | refine hd_q 18 (hop_len_nil (T:=22) rfl (elOf_spec el_22).1 rfl) rfl rfl pre0 rfl rfl (k':=5) rfl ?_
 refine dm 6 ?_
 first
 | refine hd_q 20 (hop_nilcheck_pt rfl) rfl rfl pre0 rfl rfl (k':=7) rfl ?_
 | refine hd_q 20 (hop_nilcheck_fp rfl) rfl rfl pre0 rfl rfl (k':=7) rfl ?_
 first
 | refine hd_q 21 (hop_fa fd_77_1 rfl) rfl rfl pre0 rfl rfl (k':=8) rfl ?_
 | refine hd_q 21 (hop_fa_fp fd_77_1 rfl (by first | exact Nat.le_of_ble_eq_true rfl | omega | (dsimp only;omega) | (simp <;> omega))) rfl rfl pre0 rfl rfl (k':=8) rfl ?_
 first
 | refine hd_q 22 (hol_load ty_22 rfl (by first | exact Nat.le_of_ble_eq_true rfl | omega | (dsimp only;omega) | (simp <;> omega)) (by first | exact Nat.le_of_ble_eq_true rfl | omega | (dsimp only;omega) | (simp <;> omega)) (fun h=>(by first | rfl | cases h))) rfl rfl (pre1 rfl) rfl rfl (k':=9) rfl ?_
 | refine hd_q 22 (hop_load_fp ty_22 rfl (by first | exact Nat.le_of_ble_eq_true rfl | omega | (dsimp only;omega) | (simp <;> omega)) (fun h=>(by first | rfl | cases h))) rfl rfl pre0 rfl rfl (k':=9) rfl ?_
 first
 | refine hd_q 23 (hop_len_sl (T:=22) rfl (elOf_spec el_22).1 rfl) rfl rfl pre0 rfl rfl (k':=10) rfl ?_
 | refine hd_q 23 (hop_len_os (T:=22) rfl (elOf_spec el_22).1 rfl) rfl rfl pre0 rfl rfl (k':=10) rfl ?_
 | refine hd_q 23 (hop_len_nil (T:=22) rfl (elOf_spec el_22).1 rfl) rfl rfl pre0 rfl rfl (k':=10) rfl ?_
 refine d0 11 (hop_assign rfl) ?_
 refine d0 12 (hop_assign rfl) ?_
 refine hd_nil kr kr (c':=12) rfl ?_
 refine h3 _<|hw_seq fun Nh4 h4=>srg fun N h5=>sm ?_
 first
 | refine hq_ 25 (hop_nilcheck_pt rfl) rfl rfl pre0 rfl rfl ?_
 | refine hq_ 25 (hop_nilcheck_fp rfl) rfl rfl pre0 rfl rfl ?_
 first
 | refine hq_ 26 (hop_fa fd_77_2 rfl) rfl rfl pre0 rfl rfl ?_
 | refine hq_ 26 (hop_fa_fp fd_77_2 rfl (by first | exact Nat.le_of_ble_eq_true rfl | omega | (dsimp only;omega) | (simp <;> omega))) rfl rfl pre0 rfl rfl ?_
 first
 | refine hq_ 27 (hol_load ty_75 rfl (by first | exact Nat.le_of_ble_eq_true rfl | omega | (dsimp only;omega) | (simp <;> omega)) (by first | exact Nat.le_of_ble_eq_true rfl | omega | (dsimp only;omega) | (simp <;> omega)) (fun h=>(by first | rfl | cases h))) rfl rfl (pre1 rfl) rfl rfl ?_
 | refine hq_ 27 (hop_load_fp ty_75 rfl (by first | exact Nat.le_of_ble_eq_true rfl | omega | (dsimp only;omega) | (simp <;> omega)) (fun h=>(by first | rfl | cases h))) rfl rfl pre0 rfl rfl ?_
 first
 | refine hq_ 28 (hop_len_sl (T:=75) rfl (elOf_spec el_75).1 rfl) rfl rfl pre0 rfl rfl ?_
 | refine hq_ 28 (hop_len_os (T:=75) rfl (elOf_spec el_75).1 rfl) rfl rfl pre0 rfl rfl ?_
 | refine hq_ 28 (hop_len_nil (T:=75) rfl (elOf_spec el_75).1 rfl) rfl rfl pre0 rfl rfl ?_
 first
 | refine hq_ 29 (hop_subi rfl rfl rfl (by first | exact Nat.le_of_ble_eq_true rfl | omega | (dsimp only;omega) | (simp <;> omega)) (by first | exact Nat.le_of_ble_eq_true rfl | omega | (dsimp only;omega) | (simp <;> omega))) rfl rfl pre0 rfl rfl ?_
 | refine hq_ 29 (hop_sub rfl rfl) rfl rfl pre0 rfl rfl ?_
 refine sa<|snl h5<|hw_block ?_
 refine hw_own 3 9003 2 85 ((pairsF [])) rfl (by decide) rfl (c':=13) rfl ?_
 refine hw_loopc (α:=Nat×Nat×Int×Nat×Nat×List (Nat×Nat)) (fun x c=>⟨89,[(0,.v (finV a b (D+1) R)),(3,.v (.os 9003 x.2.2.2.1 0 x.2.2.2.2.1)),(4,.v (intV (x.2.1:Int))),(5,.v (intV x.2.2.1)),(6,.v (intV ((x.1:Int) - 1)))],[(9003,⟨x.2.2.2.1,x.2.2.2.2.1,2,85,0,pairsF x.2.2.2.2.2⟩)],c⟩) (fun x=>Left (samV a b) a.length D Wh x.1 x.2.1 x.2.2.1 x.2.2.2.2.2∧x.1≤D+1∧x.2.2.2.2.2.length=x.2.2.2.2.1) (fun x=>x.1) ((D+1,a.length,(b.length:Int),12,0,[])) (by show Left _ _ D Wh (D+1) a.length (b.length:Int) []∧_∧_;exact ⟨.inr ⟨D,(a.length:Int) - b.length,rfl,Nat.le_refl _,hon0,hu0.2.1.symm,by omega,hWe⟩,Nat.le_refl _,rfl⟩) (hsub_of rfl (Nat.le_refl _) tsa hsa) (fun x c hx NhL6 hL6=>?_)
 revert hx hL6;obtain ⟨n,X1,Y1,g,m,l⟩:=x;intro hx hL6;dsimp only at hx hL6 ⊢
 obtain ⟨hL,hn,hm⟩:=hx
 refine hw_seq fun Nh7 h7=>srg fun N h8=>sm ?_
 refine s0 (hop_geq rfl rfl) ?_
 refine snl h8 ?_
 refine wc (fun hc0=>?_) (fun hc0=>?_)
 ·have hr0:=hc0;(try simp only [hcs,Int.reduceToNat] at hc0)
  obtain ⟨e,k,rfl,he,hon,hX,hY,hl⟩:=(show ∃ e k,n=e+1∧e≤D∧onD e k∧X1=far (samV a b) a.length e k∧Y1=(X1:Int) - k∧l++kps (samV a b) a.length e k=Wh from by rcases hL with ⟨h0,_⟩ | h;(exfalso;omega);exact h);have hfl:=far_le (samV a b) a.length e k;have hfk:=(far_pth (samV a b) a.length e k hon).1;obtain ⟨ho1,ho2,ho3⟩:=id hon
  refine hw_skip<|h7 _<|hw_seq fun Nh9 h9=>hw_block<|srg fun N h10=>sa<|sa<|snl h10<|srg fun N h11=>sa<|sa<|snl h11 ?_
  refine hw_joinc (α:=Nat×Int×Nat) (fun x c=>⟨89,[(0,.v (finV a b (D+1) R)),(3,.v (.os 9003 g 0 m)),(4,.v (intV (X1:Int))),(5,.v (intV Y1)),(6,.v (intV (e:Int))),(7,.v (intV (x.1:Int))),(8,.v (intV x.2.1)),(9,.v (intV (x.2.2:Int))),(10,.v (intV ((x.2.2:Int) - k)))],[(9003,⟨g,m,2,85,0,pairsF l⟩)],c⟩) (fun x=>x.2.2≤X1∧k≤x.2.2∧Left (samV a b) a.length D Wh e x.1 x.2.1 (l++dn x.2.2 k (X1 - x.2.2))) (fun NhJ12 hJ12=>?_) (fun x c hx=>?_)
  ·skip
   refine srg fun N h13=>sm ?_
   refine s0 (hop_gtr rfl rfl) ?_
   refine snl h13 ?_
   refine wc (fun hc1=>?_) (fun hc1=>?_)
   ·have hr1:=hc1;(try simp only [hcs,Int.reduceToNat] at hc1)
    obtain ⟨e',rfl⟩:∃ e',e=e'+1:=⟨e - 1,by omega⟩
    refine srg fun N h14=>sm<|sm ?_
    first
    | refine hq_ 38 (HOp.val (v':=intV k) (hop_subi rfl rfl rfl (by first | exact Nat.le_of_ble_eq_true rfl | omega | (dsimp only;omega) | (simp <;> omega)) (by first | exact Nat.le_of_ble_eq_true rfl | omega | (dsimp only;omega) | (simp <;> omega))) (congrArg intV (by omega))) rfl rfl pre0 rfl rfl ?_
    | refine hq_ 38 (HOp.val (v':=intV k) (hop_sub rfl rfl) (congrArg intV (by omega))) rfl rfl pre0 rfl rfl ?_
    refine sa<|snl h14<|srg fun N h15=>sm ?_
    first
    | refine hq_ 41 (hop_nilcheck_pt rfl) rfl rfl pre0 rfl rfl ?_
    | refine hq_ 41 (hop_nilcheck_fp rfl) rfl rfl pre0 rfl rfl ?_
    first
    | refine hq_ 42 (hop_fa fd_77_2 rfl) rfl rfl pre0 rfl rfl ?_
    | refine hq_ 42 (hop_fa_fp fd_77_2 rfl (by first | exact Nat.le_of_ble_eq_true rfl | omega | (dsimp only;omega) | (simp <;> omega))) rfl rfl pre0 rfl rfl ?_
    first
    | refine hq_ 43 (hol_load ty_75 rfl (by first | exact Nat.le_of_ble_eq_true rfl | omega | (dsimp only;omega) | (simp <;> omega)) (by first | exact Nat.le_of_ble_eq_true rfl | omega | (dsimp only;omega) | (simp <;> omega)) (fun h=>(by first | rfl | cases h))) rfl rfl (pre1 rfl) rfl rfl ?_
    | refine hq_ 43 (hop_load_fp ty_75 rfl (by first | exact Nat.le_of_ble_eq_true rfl | omega | (dsimp only;omega) | (simp <;> omega)) (fun h=>(by first | rfl | cases h))) rfl rfl pre0 rfl rfl ?_
    refine sm ?_
    first
    | refine hq_ 45 (hop_subi rfl rfl rfl (by first | exact Nat.le_of_ble_eq_true rfl | omega | (dsimp only;omega) | (simp <;> omega)) (by first | exact Nat.le_of_ble_eq_true rfl | omega | (dsimp only;omega) | (simp <;> omega))) rfl rfl pre0 rfl rfl ?_
    | refine hq_ 45 (hop_sub rfl rfl) rfl rfl pre0 rfl rfl ?_
    first
    | refine hq_ 46 (hop_ia_sl el_75 rfl rfl (by first | exact Nat.le_of_ble_eq_true rfl | omega | (dsimp only;omega) | (simp <;> omega)) (by first | exact Nat.le_of_ble_eq_true rfl | omega | (dsimp only;omega) | (simp <;> omega)) (by first | exact Nat.le_of_ble_eq_true rfl | omega | (dsimp only;omega) | (simp <;> omega))) rfl rfl pre0 rfl rfl ?_
    | refine hq_ 46 (hol_ia_os el_75 rfl rfl (by first | exact Nat.le_of_ble_eq_true rfl | omega | (dsimp only;omega) | (simp <;> omega)) (by first | exact Nat.le_of_ble_eq_true rfl | omega | (dsimp only;omega) | (simp <;> omega))) rfl rfl (pre1 rfl) rfl rfl ?_
    first
    | refine hq_ 47 (HOp.val (v':=rowV (2 * (e'+1)+1) (full (samV a b) a.length e')) (hol_load ty_45 rfl (by first | exact Nat.le_of_ble_eq_true rfl | omega | (dsimp only;omega) | (simp <;> omega)) (by first | exact Nat.le_of_ble_eq_true rfl | omega | (dsimp only;omega) | (simp <;> omega)) (fun h=>(by first | rfl | cases h))) ((by have ez:(((e'+1+1:Nat):Int) - 1 - 1).toNat=e':=(by omega);show rowV (2 * (((e'+1+1:Nat):Int) - 1 - 1).toNat+3) (R (((e'+1+1:Nat):Int) - 1 - 1).toNat)=_;rw [ez,hR e' (by omega)];exact congrArg (fun z=>rowV z _) (by omega)))) rfl rfl (pre1 rfl) rfl rfl ?_
    | refine hq_ 47 (HOp.val (v':=rowV (2 * (e'+1)+1) (full (samV a b) a.length e')) (hop_load_fp ty_45 rfl (by first | exact Nat.le_of_ble_eq_true rfl | omega | (dsimp only;omega) | (simp <;> omega)) (fun h=>(by first | rfl | cases h))) ((by have ez:(((e'+1+1:Nat):Int) - 1 - 1).toNat=e':=(by omega);show rowV (2 * (((e'+1+1:Nat):Int) - 1 - 1).toNat+3) (R (((e'+1+1:Nat):Int) - 1 - 1).toNat)=_;rw [ez,hR e' (by omega)];exact congrArg (fun z=>rowV z _) (by omega)))) rfl rfl pre0 rfl rfl ?_
    refine s0 (HOp.val (v':=intV ((e'+1:Nat):Int)) (hop_move rfl) (congrArg intV (by omega))) ?_
    refine sm ?_
    refine s0 (hop_call0 (xs:=[_,_,_]) (best_h (full (samV a b) a.length e') (fun j=>Nat.le_trans (rowAt_le _ _ _ _ _) om) (e'+1) k om om ho1 ho2) ⟨rfl,⟨rfl,⟨rfl,trivial⟩⟩⟩ ⟨fe,⟨fe,⟨fe,trivial⟩⟩⟩) ?_
    refine sm ?_
    refine s0 hex ?_
    refine s0 hex ?_
    refine sa<|sa<|snl h15<|hw_seq fun Nh16 h16=>?_
    have hb9:=bst_ge (samV a b) a.length hon;rw [←bstR_full (samV a b) a.length hon] at hb9
    refine hw_region<|sm<|sm<|sm ?_
    first
    | refine hq_ 56 (hop_subi rfl rfl rfl (by first | exact Nat.le_of_ble_eq_true rfl | omega | (dsimp only;omega) | (simp <;> omega)) (by first | exact Nat.le_of_ble_eq_true rfl | omega | (dsimp only;omega) | (simp <;> omega))) rfl rfl pre0 rfl rfl ?_
    | refine hq_ 56 (hop_sub rfl rfl) rfl rfl pre0 rfl rfl ?_
    refine sa<|sa<|snl h16<|srg fun N h17=>sm<|sm<|sm ?_
    first
    | refine hq_ 60 (hop_subi rfl rfl rfl (by first | exact Nat.le_of_ble_eq_true rfl | omega | (dsimp only;omega) | (simp <;> omega)) (by first | exact Nat.le_of_ble_eq_true rfl | omega | (dsimp only;omega) | (simp <;> omega))) rfl rfl pre0 rfl rfl ?_
    | refine hq_ 60 (hop_sub rfl rfl) rfl rfl pre0 rfl rfl ?_
    refine sa<|sa<|snl h17<|srg fun N h18=>sm<|snl h18 ?_
    refine wc (fun hc2=>?_) (fun hc2=>?_)
    ·have hr2:=hc2;(try simp only [hcs,Int.reduceToNat] at hc2)
     refine hw_region<|sm ?_
     first
     | refine hq_ 63 (hop_subi rfl rfl rfl (by first | exact Nat.le_of_ble_eq_true rfl | omega | (dsimp only;omega) | (simp <;> omega)) (by first | exact Nat.le_of_ble_eq_true rfl | omega | (dsimp only;omega) | (simp <;> omega))) rfl rfl pre0 rfl rfl ?_
     | refine hq_ 63 (hop_sub rfl rfl) rfl rfl pre0 rfl rfl ?_
     refine sa<|hseq_nil ?_
     exact hJ12 (((bstR (full (samV a b) a.length e') (e'+1) k).1,((bstR (full (samV a b) a.length e') (e'+1) k).1:Int) - k - 1,(bstR (full (samV a b) a.length e') (e'+1) k).1)) _ _ (by (try dsimp only);rw [bstR_full (samV a b) a.length hon] at hc2 ⊢;rw [hX];exact ⟨slid_ge _ _ _ _,(bst_ge (samV a b) a.length hon).1,left_down _ _ _ _ hon he hc2 hl⟩) (hsub_of rfl (Nat.le_refl _) (tsr rfl (tsr rfl (tsr rfl (tsr rfl (TmSub.cons rfl (sb_intV om) (TmSub.cons rfl (sb_intV (by first | rfl | (dsimp only;omega))) (TmSub.cons rfl (sb_intV (by first | rfl | (dsimp only;omega))) (TmSub.cons rfl (sb_intV (by first | rfl | (dsimp only;omega))) (TmSub.cons rfl (sb_intV (by first | rfl | (dsimp only;omega))) TmSub.nil))))))))) hsa)
    have hr2:=hc2;(try simp only [hcs,Int.reduceToNat] at hc2)
    have hp9:1≤(bstR (full (samV a b) a.length e') (e'+1) k).1:=(by rw [bstR_full (samV a b) a.length hon] at hc2 ⊢;exact (left_right _ _ _ _ hon he hc2 hl).1)
    refine hw_region<|sm ?_
    first
    | refine hq_ 65 (hop_subi rfl rfl rfl (by first | exact Nat.le_of_ble_eq_true rfl | omega | (dsimp only;omega) | (simp <;> omega)) (by first | exact Nat.le_of_ble_eq_true rfl | omega | (dsimp only;omega) | (simp <;> omega))) rfl rfl pre0 rfl rfl ?_
    | refine hq_ 65 (hop_sub rfl rfl) rfl rfl pre0 rfl rfl ?_
    refine sa<|hseq_nil ?_
    exact hJ12 (((bstR (full (samV a b) a.length e') (e'+1) k).1 - 1,((bstR (full (samV a b) a.length e') (e'+1) k).1:Int) - k,(bstR (full (samV a b) a.length e') (e'+1) k).1)) _ _ (by (try dsimp only);rw [bstR_full (samV a b) a.length hon] at hc2 ⊢;rw [hX];exact ⟨slid_ge _ _ _ _,(bst_ge (samV a b) a.length hon).1,(left_right _ _ _ _ hon he hc2 hl).2⟩) (hsub_of rfl (Nat.le_refl _) (tsr rfl (tsr rfl (tsr rfl (tsr rfl (TmSub.cons rfl (sb_intV om) (TmSub.cons rfl (sb_intV (by first | rfl | (dsimp only;omega))) (TmSub.cons rfl (sb_intV (by first | rfl | (dsimp only;omega))) (TmSub.cons rfl (sb_intV (by first | rfl | (dsimp only;omega))) (TmSub.cons rfl (sb_intV (by first | rfl | (dsimp only;omega))) TmSub.nil))))))))) hsa)
   have hr1:=hc1;(try simp only [hcs,Int.reduceToNat] at hc1)
   have he0:e=0:=om;have hk0:k=0:=om
   refine hw_skip ?_
   exact hJ12 ((0,0,0)) _ _ (by (try dsimp only);rw [Nat.sub_zero,hX,show e=0 by omega,show k=0 by omega];exact ⟨Nat.zero_le _,Int.le_refl _,left_zero _ _ _ _ (by rw [show e=0 by omega,show k=0 by omega] at hl;exact hl)⟩) (hsub_of rfl (Nat.le_refl _) (tsr rfl (tsr rfl (tsr rfl (tsr rfl (TmSub.cons rfl (sb_intV om) (TmSub.cons rfl (sb_intV (by first | rfl | (dsimp only;omega))) (TmSub.cons rfl (sb_intV (by first | rfl | (dsimp only;omega))) (TmSub.cons rfl (sb_intV (by first | rfl | (dsimp only;omega))) (TmSub.cons rfl (sb_intV (by first | rfl | (dsimp only;omega))) TmSub.nil))))))))) hsa)
  ·skip
   revert hx;obtain ⟨f,fy,q⟩:=x;intro hx;dsimp only at hx ⊢
   obtain ⟨hq1,hq2,hL2⟩:=hx
   refine hw_seq fun Nh19 h19=>hw_block ?_
   refine hw_loopc (α:=Nat×Nat×Nat×List (Nat×Nat)) (fun x c=>⟨89,[(0,.v (finV a b (D+1) R)),(3,.v (.os 9003 x.2.1 0 x.2.2.1)),(4,.v (intV ((q+x.1:Nat):Int))),(5,.v (intV (((q+x.1:Nat):Int) - k))),(6,.v (intV (e:Int))),(7,.v (intV (f:Int))),(8,.v (intV fy)),(9,.v (intV (q:Int))),(10,.v (intV ((q:Int) - k)))],[(9003,⟨x.2.1,x.2.2.1,2,85,0,pairsF x.2.2.2⟩)],c⟩) (fun x=>x.2.2.2++dn q k x.1=l++dn q k (X1 - q)∧x.2.2.2.length=x.2.2.1∧x.1≤X1 - q) (fun x=>x.1) ((X1 - q,g,m,l)) (by exact ⟨rfl,hm,Nat.le_refl _⟩) (hsub_of rfl (Nat.le_refl _) (tsr rfl (tsr rfl (TmSub.cons rfl (sb_intV om) (TmSub.cons rfl (sb_intV om) tsa)))) hsa) (fun x c hx NhL20 hL20=>?_)
   revert hx hL20;obtain ⟨i,g1,m1,l1⟩:=x;intro hx hL20;dsimp only at hx hL20 ⊢
   obtain ⟨hl1,hm1,hi1⟩:=hx
   refine hw_seq fun Nh21 h21=>srg fun N h22=>sm<|sm ?_
   refine s0 (hop_gtr rfl rfl) ?_
   refine sm ?_
   first
   | refine stg 69 (fun hb=>hop_move rfl) rfl rfl rfl rfl rfl ?_
   | refine sth 69 (fun hb=>hop_move rfl) rfl rfl rfl rfl rfl ?_
   first
   | refine stg 69 (fun hb=>hop_move rfl) rfl rfl rfl rfl rfl ?_
   | refine sth 69 (fun hb=>hop_move rfl) rfl rfl rfl rfl rfl ?_
   first
   | refine stg 69 (fun hb=>hop_gtr rfl rfl) rfl rfl rfl rfl rfl ?_
   | refine sth 69 (fun hb=>hop_gtr rfl rfl) rfl rfl rfl rfl rfl ?_
   first
   | refine hq_p 73 (hstep_and _ _ rfl rfl rfl) rfl rfl rfl ?_
   | refine hq_p 73 (hstep_or _ _ rfl rfl rfl) rfl rfl rfl ?_
   | refine hq_p 73 (hstep_ite _ _ _ rfl rfl rfl) rfl rfl rfl ?_
   | refine hq_p 73 (hstep_pick _ _ _ _ rfl rfl rfl (fun _=>.refl _) (fun _=>.refl _)) rfl rfl rfl ?_
   refine nu ?_
   refine h22 _ ?_
   refine wc (fun hc3=>?_) (fun hc3=>?_)
   ·have hr3:=hc3;(try simp only [hcs,Int.reduceToNat] at hc3)
    have hl9:=congrArg List.length hl1;rw [List.length_append,dn_len] at hl9;have hl8:=hL2.len;obtain ⟨i',rfl⟩:∃ i',i=i'+1:=⟨i - 1,by omega⟩
    refine hw_skip<|h21 _<|hw_block<|srg fun N h23=>sm ?_
    first
    | refine hq_ 75 (hop_subi rfl rfl rfl (by first | exact Nat.le_of_ble_eq_true rfl | omega | (dsimp only;omega) | (simp <;> omega)) (by first | exact Nat.le_of_ble_eq_true rfl | omega | (dsimp only;omega) | (simp <;> omega))) rfl rfl pre0 rfl rfl ?_
    | refine hq_ 75 (hop_sub rfl rfl) rfl rfl pre0 rfl rfl ?_
    refine sa<|snl h23<|srg fun N h24=>sm ?_
    first
    | refine hq_ 77 (hop_subi rfl rfl rfl (by first | exact Nat.le_of_ble_eq_true rfl | omega | (dsimp only;omega) | (simp <;> omega)) (by first | exact Nat.le_of_ble_eq_true rfl | omega | (dsimp only;omega) | (simp <;> omega))) rfl rfl pre0 rfl rfl ?_
    | refine hq_ 77 (hop_sub rfl rfl) rfl rfl pre0 rfl rfl ?_
    refine sa<|snl h24<|hw_region<|sm<|sm<|sm ?_
    refine s0 (hop_buildA (m:=2) (hs:=[(0,1,_),(1,1,_)]) ar_85 rfl rfl ⟨rfl,rfl,rfl,rfl,rfl,⟨rfl,rfl,rfl,rfl,rfl,trivial⟩⟩) ?_
    refine hm_1 82 (hop_buildSlice (id:=82) (hs:=[_]) ei_78 omx rfl omx ⟨rfl,rfl,rfl,rfl,trivial⟩) rfl rfl pre0 rfl rfl (c':=c+1) rfl ?_
    first
    | refine hm_1 83 (hol_append ei_78 (by first | exact Nat.le_of_ble_eq_true rfl | omega | (dsimp only;omega) | (simp <;> omega)) rfl (by first | exact Nat.le_of_ble_eq_true rfl | omega | (dsimp only;omega) | (simp <;> omega)) (by first | exact Nat.le_of_ble_eq_true rfl | omega | (dsimp only;omega) | (simp <;> omega)) (srl_os0 rfl (by first | exact Nat.le_of_ble_eq_true rfl | omega | (dsimp only;omega) | (simp <;> omega))) (by first | exact Nat.le_of_ble_eq_true rfl | omega | (dsimp only;omega) | (simp <;> omega)) rfl) rfl rfl (preC rfl (pre1 rfl)) rfl rfl (c':=c+2) rfl ?_
    | refine hm_1 83 (hol_append ei_78 (by first | exact Nat.le_of_ble_eq_true rfl | omega | (dsimp only;omega) | (simp <;> omega)) rfl (by first | exact Nat.le_of_ble_eq_true rfl | omega | (dsimp only;omega) | (simp <;> omega)) (by first | exact Nat.le_of_ble_eq_true rfl | omega | (dsimp only;omega) | (simp <;> omega)) (srl_os rfl (by first | exact Nat.le_of_ble_eq_true rfl | omega | (dsimp only;omega) | (simp <;> omega))) (by first | exact Nat.le_of_ble_eq_true rfl | omega | (dsimp only;omega) | (simp <;> omega)) rfl) rfl rfl (preC rfl (pre1 rfl)) rfl rfl (c':=c+2) rfl ?_
    | refine hm_1 83 (hol_append ei_78 (by first | exact Nat.le_of_ble_eq_true rfl | omega | (dsimp only;omega) | (simp <;> omega)) rfl (by first | exact Nat.le_of_ble_eq_true rfl | omega | (dsimp only;omega) | (simp <;> omega)) (by first | exact Nat.le_of_ble_eq_true rfl | omega | (dsimp only;omega) | (simp <;> omega)) (src_sl rfl) (by first | exact Nat.le_of_ble_eq_true rfl | omega | (dsimp only;omega) | (simp <;> omega)) rfl) rfl rfl (preC rfl pre0) rfl rfl (c':=c+2) rfl ?_
    | refine hm_1 83 (hol_append ei_78 (by first | exact Nat.le_of_ble_eq_true rfl | omega | (dsimp only;omega) | (simp <;> omega)) rfl (by first | exact Nat.le_of_ble_eq_true rfl | omega | (dsimp only;omega) | (simp <;> omega)) (by first | exact Nat.le_of_ble_eq_true rfl | omega | (dsimp only;omega) | (simp <;> omega)) (src_nil 2 (fun _ _=>default) rfl) (by first | exact Nat.le_of_ble_eq_true rfl | omega | (dsimp only;omega) | (simp <;> omega)) rfl) rfl rfl (preC rfl pre0) rfl rfl (c':=c+2) rfl ?_
    refine sa<|hseq_nil<|hq_block ?_
    exact hL20 ((i',c+1,m1+1,l1++[(q+i',((q+i':Nat) - k:Int).toNat)])) _ _ (by (try dsimp only);exact ⟨by rw [←hl1,List.append_assoc];rfl,by rw [List.length_append,hm1];rfl,by omega⟩) (by (try dsimp only);omega) (hsub_of rfl (Nat.le_refl _) (tsr rfl (tsr rfl (TmSub.cons rfl (sb_intV om) (TmSub.cons rfl (sb_intV om) tsa)))) (HpSub.cons rfl (OSub.of fun j z hj hz=>pairs_snoc hm1 (by show intV _=intV _;exact congrArg intV om) (by show intV _=intV _;exact congrArg intV om) j z hj hz) HpSub.nil))
   have hr3:=hc3;(try simp only [hcs,Int.reduceToNat] at hc3)
   obtain rfl:i=0:=(by simp only [Bool.and_eq_false_iff,decide_eq_false_iff_not] at hc3;omega)
   refine hw_exit ?_
   refine hq_then_exit<|hq_then_exit<|hq_block_here<|h19 _<|hw_region<|sm<|sm<|sa<|sa<|hseq_nil<|hq_block<|h9 _<|hw_region<|sm ?_
   first
   | refine hq_ 33 (hop_subi rfl rfl rfl (by first | exact Nat.le_of_ble_eq_true rfl | omega | (dsimp only;omega) | (simp <;> omega)) (by first | exact Nat.le_of_ble_eq_true rfl | omega | (dsimp only;omega) | (simp <;> omega))) rfl rfl pre0 rfl rfl ?_
   | refine hq_ 33 (hop_sub rfl rfl) rfl rfl pre0 rfl rfl ?_
   refine sa<|hseq_nil ?_
   exact hL6 ((e,f,fy,g1,m1,l1)) _ _ (by (try dsimp only);exact ⟨by have h9:=hl1;rw [show dn q k 0=[] from rfl,List.append_nil] at h9;rw [h9];exact hL2,by omega,hm1⟩) (by (try dsimp only);omega) (hsub_of rfl (Nat.le_refl _) tsa hsa)
 have hr0:=hc0;(try simp only [hcs,Int.reduceToNat] at hc0)
 have hW9:l=Wh:=(by rcases hL with ⟨_,h⟩ | ⟨e,_,he,_⟩;(exact h);(exfalso;omega));subst hW9;subst hm
 refine hw_exit ?_
 refine hq_then_exit<|hq_then_exit<|hq_block_here<|h4 _<|srg fun N h25=>sm ?_
 refine hf_callR 87 (xs:=[_]) (pre:=[(9003,_)]) (reverse_h l om g _) ⟨rfl,trivial⟩ (preC rfl pre0) rfl rfl (fun x1 c1 hx1=>?_)
 (try dsimp only)
 refine snl h25<|srg fun N h26=>sm<|sa<|snl h26<|hw_ret ?_
 refine hq_ret1 rfl (rval_tmp rfl) [(9003,_)] rfl (preC rfl pre0) ?_
 exact fz_pairs (.head _) (by simp) (by simp) (fun i j hi hj=>rfl)
end Go.Proofs.Ytkcfhciffdnmmaa
namespace Go.Proofs.Ytkcfhciffdnmmaa
set_option linter.unusedSimpArgs false
set_option linter.unusedVariables false
structure Prt where
 old:Bool
 f:Nat
 t:Nat
 new:List Tok
instance:Inhabited Prt:=⟨⟨false,0,0,[]⟩⟩
def freshV (b:List Tok) (l:List Prt) (at_ to_:Nat):List Prt:=if at_ < to_ then l++[⟨false,0,0,(b.take to_).drop at_⟩] else l
def glueV (l:List Prt) (x:Nat):List Prt:=if 0 < l.length∧(l.getD (l.length - 1) default).old=true∧(l.getD (l.length - 1) default).t=x then l.set (l.length - 1) ⟨true,(l.getD (l.length - 1) default).f,x+1,(l.getD (l.length - 1) default).new⟩ else l++[⟨true,x,x+1,[]⟩]
def partI (b:List Tok) (st:List Prt×Nat) (p:Nat×Nat):List Prt×Nat:=(glueV (freshV b st.1 st.2 p.2) p.1,p.2+1)
def partsI (b:List Tok) (ks:List (Nat×Nat)):List Prt×Nat:=ks.foldl (partI b) ([],0)
def partsV (b:List Tok) (ks:List (Nat×Nat)):List Prt:=freshV b (partsI b ks).1 (partsI b ks).2 b.length
theorem partsI_snoc (b:List Tok) (ks:List (Nat×Nat)) (p:Nat×Nat):partsI b (ks++[p])=partI b (partsI b ks) p:=by
 unfold partsI;rw [List.foldl_append];rfl
def keptV (l:List Prt):Nat:=(l.map fun p=>if p.old=true then p.t - p.f else 0).sum
theorem keptV_snoc (l:List Prt) (p:Prt):keptV (l++[p])=keptV l+if p.old=true then p.t - p.f else 0:=by
 unfold keptV;rw [List.map_append,List.sum_append];simp
def mkS (a:List Tok) (st:Option (Nat×List Tok×Option Bool)) (p:Prt):Option (Nat×List Tok×Option Bool):=match st with
  | none=>none
  | some (e, o, pv) =>
    if p.old=true then
      if p.f < e∨p.t≤p.f∨a.length < p.t∨(pv=some true∧p.f=e) then none else some (p.t,o++(a.take p.t).drop p.f,some true)
    else if p.new=[]∨pv=some false then none else some (e,o++p.new,some false)
def mkF (a:List Tok) (l:List Prt):Option (Nat×List Tok×Option Bool):=l.foldl (mkS a) (some (0,[],none))
theorem mkF_snoc (a:List Tok) (l:List Prt) (p:Prt):mkF a (l++[p])=mkS a (mkF a l) p:=by
 unfold mkF;rw [List.foldl_append];rfl
theorem mkS_none (a:List Tok):∀ l:List Prt,l.foldl (mkS a) none=none
 | []=>rfl
 | p::l=>mkS_none a l
theorem mkF_take {a:List Tok} {l:List Prt} {r:Nat×List Tok×Option Bool} (h:mkF a l=some r) (i:Nat):∃ r',mkF a (l.take i)=some r':=by
  cases hm:mkF a (l.take i) with
  | some r'=>exact ⟨r',rfl⟩
  | none =>
    unfold mkF at h hm
    rw [←List.take_append_drop i l,List.foldl_append,hm,mkS_none] at h
    cases h
theorem mkF_next (a:List Tok) {l:List Prt} {i:Nat} (h:i < l.length):mkF a (l.take (i+1))=mkS a (mkF a (l.take i)) (l.getD i default):=by
 rw [←mkF_snoc,List.take_add_one,List.getElem?_eq_getElem h]
 rw [List.getD_eq_getElem?_getD,List.getElem?_eq_getElem h];rfl
theorem mkS_old {a:List Tok} {e:Nat} {o:List Tok} {pv:Option Bool} {p:Prt} {r:Nat×List Tok×Option Bool} (h:mkS a (some (e,o,pv)) p=some r) (hp:p.old=true) :
  ¬ (p.f < e∨p.t≤p.f∨a.length < p.t∨(pv=some true∧p.f=e))∧r=(p.t,o++(a.take p.t).drop p.f,some true):=by
 unfold mkS at h
 simp only [hp,if_true] at h
 split at h
 ·cases h
 ·rename_i h';injection h with h;exact ⟨h',h.symm⟩
theorem mkS_new {a:List Tok} {e:Nat} {o:List Tok} {pv:Option Bool} {p:Prt} {r:Nat×List Tok×Option Bool} (h:mkS a (some (e,o,pv)) p=some r) (hp:p.old=false) :
  ¬ (p.new=[]∨pv=some false)∧r=(e,o++p.new,some false):=by
 unfold mkS at h
 simp only [hp,Bool.false_eq_true,if_false] at h
 split at h
 ·cases h
 ·rename_i h';injection h with h;exact ⟨h',h.symm⟩
theorem mkF_last {a:List Tok} {l:List Prt} {i e:Nat} {o:List Tok} {pv:Option Bool} (hi:i≤l.length) (h:mkF a (l.take i)=some (e,o,pv)):(i=0∧pv=none)∨(0 < i∧pv=some (l.getD (i - 1) default).old):=by
  cases i with
  | zero =>
    left
    rw [List.take_zero] at h
    unfold mkF at h
    injection h with h;injection h with h1 h2;injection h2 with h2 h3
    exact ⟨rfl,h3.symm⟩
  | succ i =>
    right
    refine ⟨Nat.succ_pos _,?_⟩
    rw [mkF_next a (by omega)] at h
    cases hm:mkF a (l.take i) with
    | none=>rw [hm] at h;cases h
    | some r =>
      obtain ⟨e1,o1,pv1⟩:=r
      rw [hm] at h
      show pv=some (l.getD i default).old
      cases hp:(l.getD i default).old with
      | true=>have:=(mkS_old h hp).2;injection this with _ h2;injection h2 with _ h3
      | false=>have:=(mkS_new h hp).2;injection this with _ h2;injection h2 with _ h3
theorem mk_len (a:List Tok):∀ (r:List Prt) (e E:Nat) (o O:List Tok) (pv PV:Option Bool),r.foldl (mkS a) (some (e,o,pv))=some (E,O,PV)→o.length≤O.length
  | [],e,E,o,O,pv,PV,h=>by injection h with h;injection h with _ h;injection h with h _;rw [h];exact Nat.le_refl _
  | p :: r, e, E, o, O, pv, PV, h => by
    have h':r.foldl (mkS a) (mkS a (some (e,o,pv)) p)=some (E,O,PV):=h
    cases hm:mkS a (some (e,o,pv)) p with
    | none=>rw [hm,mkS_none] at h';cases h'
    | some q =>
      obtain ⟨e1,o1,pv1⟩:=q
      rw [hm] at h'
      have ih:=mk_len a r e1 E o1 O pv1 PV h'
      cases hp:p.old with
      | true=>have:=(mkS_old hm hp).2;injection this with _ h2;injection h2 with h2 _;rw [h2,List.length_append] at ih;omega
      | false=>have:=(mkS_new hm hp).2;injection this with _ h2;injection h2 with h2 _;rw [h2,List.length_append] at ih;omega
theorem mkF_len {a:List Tok} {l:List Prt} {i e E:Nat} {o O:List Tok} {pv PV:Option Bool} (h:mkF a l=some (E,O,PV)) (hi:mkF a (l.take i)=some (e,o,pv)):o.length≤O.length:=by
 unfold mkF at h hi
 rw [←List.take_append_drop i l,List.foldl_append,hi] at h
 exact mk_len a _ _ _ _ _ _ _ h
def EndOld (l:List Prt) (e:Nat) (pv:Option Bool):Prop:=(l=[]∧pv=none)∨(pv=some true∧∃ l0 f,l=l0++[⟨true,f,e,[]⟩])
theorem mk_fresh {a b:List Tok} {l:List Prt} {e at_ to_:Nat} {pv:Option Bool} (h:mkF a l=some (e,b.take at_,pv)) (hE:EndOld l e pv) (h1:at_≤to_) (h2:to_≤b.length) :
  ∃ pv',mkF a (freshV b l at_ to_)=some (e,b.take to_,pv')∧keptV (freshV b l at_ to_)=keptV l∧((at_=to_∧freshV b l at_ to_=l∧pv'=pv)∨(at_ < to_∧pv'=some false∧∃ t,freshV b l at_ to_=l++[⟨false,0,0,t⟩])):=by
 unfold freshV
 by_cases hlt:at_ < to_
 ·rw [if_pos hlt]
  refine ⟨some false,?_,by rw [keptV_snoc];simp,.inr ⟨hlt,rfl,_,rfl⟩⟩
  rw [mkF_snoc,h]
  unfold mkS
  simp only [Bool.false_eq_true,if_false]
  rw [if_neg]
  ·congr 2
   congr 1
   have e1:b.take at_=(b.take to_).take at_:=by rw [List.take_take,Nat.min_eq_left h1]
   rw [e1,List.take_append_drop]
  ·intro h'
   rcases h' with h' | h'
   ·have:=congrArg List.length h'
    rw [List.length_drop,List.length_take] at this
    simp at this;omega
   ·rcases hE with ⟨_,h3⟩ | ⟨h3,_⟩
    ·rw [h3] at h';cases h'
    ·rw [h3] at h';cases h'
 ·rw [if_neg hlt]
  obtain rfl:at_=to_:=by omega
  exact ⟨pv,h,rfl,.inl ⟨rfl,rfl,rfl⟩⟩
theorem take_snoc {α:Type} (d:α) {b:List α} {y:Nat} (h:y < b.length):b.take (y+1)=b.take y++[b.getD y d]:=by
 rw [List.take_add_one,List.getElem?_eq_getElem h,List.getD_eq_getElem?_getD,List.getElem?_eq_getElem h];rfl
theorem getD_last {α:Type} (d:α) (l:List α) (x:α):(l++[x]).getD ((l++[x]).length - 1) d=x:=by
 rw [List.length_append,List.length_singleton,Nat.add_sub_cancel,List.getD_eq_getElem?_getD,List.getElem?_append_right (Nat.le_refl _),Nat.sub_self];rfl
theorem set_last {α:Type} (l:List α) (x y:α):(l++[x]).set ((l++[x]).length - 1) y=l++[y]:=by
 rw [List.length_append,List.length_singleton,Nat.add_sub_cancel,List.set_append_right _ _ (Nat.le_refl _),Nat.sub_self];rfl
theorem mk_step {a b:List Tok} {l:List Prt} {e at_:Nat} {pv:Option Bool} {p:Nat×Nat} {d:Tok} (h:mkF a l=some (e,b.take at_,pv)) (hE:EndOld l e pv) (h1:e≤p.1) (h2:at_≤p.2) (h3:p.1 < a.length) (h4:p.2 < b.length) (hs:a.getD p.1 d=b.getD p.2 d) :
    mkF a (partI b (l,at_) p).1=some (p.1+1,b.take (p.2+1),some true)∧EndOld (partI b (l,at_) p).1 (p.1+1) (some true)∧keptV (partI b (l,at_) p).1=keptV l+1:=by
  obtain ⟨x,y⟩:=p
  simp only at h1 h2 h3 h4 hs
  obtain ⟨pv',hm,hk,hc⟩:=mk_fresh h hE h2 (Nat.le_of_lt h4)
  show mkF a (glueV (freshV b l at_ y) x)=_∧EndOld (glueV (freshV b l at_ y) x) (x+1) _∧keptV (glueV (freshV b l at_ y) x)=_
  by_cases hg:0 < (freshV b l at_ y).length∧((freshV b l at_ y).getD ((freshV b l at_ y).length - 1) default).old=true∧((freshV b l at_ y).getD ((freshV b l at_ y).length - 1) default).t=x
  ·
    rcases hc with ⟨rfl,hf,rfl⟩ | ⟨_,_,t,hf⟩
    · rw [hf] at hg hm hk ⊢
      rcases hE with ⟨rfl,_⟩ | ⟨rfl,l0,f,rfl⟩
      · exact absurd hg.1 (by simp)
      · have hgl:=hg
        rw [getD_last] at hg
        obtain ⟨_,_,hx⟩:=hg
        simp only at hx
        subst hx
        unfold glueV
        rw [if_pos hgl,getD_last,set_last]
        rw [mkF_snoc] at hm
        cases hm0:mkF a l0 with
        | none=>rw [hm0] at hm;cases hm
        | some r =>
          obtain ⟨e0,o0,pv0⟩:=r
          rw [hm0] at hm
          obtain ⟨q1,q2⟩:=mkS_old hm rfl
          simp only at q1 q2
          injection q2 with q2 q3;injection q3 with q3 q4
          refine ⟨?_,.inr ⟨rfl,l0,f,rfl⟩,?_⟩
          · rw [mkF_snoc,hm0]
            unfold mkS
            simp only [if_true]
            rw [if_neg (fun h'=>q1 (by
              rcases h' with h' | h' | h' | h'
              · exact .inl h'
              · exact .inr (.inl (by omega))
              · exact absurd h' (by omega)
              · exact .inr (.inr (.inr h'))))]
            congr 2
            congr 1
            rw [take_snoc d h4,q3,take_snoc d h3,hs]
            rw [List.drop_append_of_le_length (by rw [List.length_take];omega),List.append_assoc]
          · rw [keptV_snoc,keptV_snoc]
            show keptV l0+(if true=true then e+1 - f else 0)=keptV l0+(if true=true then e - f else 0)+1
            rw [if_pos rfl,if_pos rfl]
            omega
    · rw [hf,getD_last] at hg
      exact absurd hg.2.1 (by simp)
  ·
    unfold glueV
    rw [if_neg hg]
    refine ⟨?_,.inr ⟨rfl,_,_,rfl⟩,by rw [keptV_snoc,hk];simp⟩
    rw [mkF_snoc,hm]
    unfold mkS
    simp only [if_true]
    rw [if_neg]
    · congr 2
      congr 1
      rw [take_snoc d h4,take_snoc d h3,hs,List.drop_append_of_le_length (by rw [List.length_take];omega),List.drop_eq_nil_of_le (by rw [List.length_take];omega),List.nil_append]
    · intro h'
      rcases h' with h' | h' | h' | ⟨h',h''⟩
      · omega
      · omega
      · omega
      · rcases hc with ⟨rfl,hf,rfl⟩ | ⟨_,hpv,_⟩
        · rcases hE with ⟨_,h5⟩ | ⟨_,l0,f,rfl⟩
          · rw [h5] at h';cases h'
          · refine hg ?_
            rw [hf,getD_last]
            exact ⟨by simp,rfl,h''.symm⟩
        · rw [hpv] at h';cases h'
theorem mk_fold {a b:List Tok} {s:Nat→Nat→Bool} {d:Tok} (hs:∀ i k,s i k=true→i < a.length∧k < b.length∧a.getD i d=b.getD k d):∀ (ks:List (Nat×Nat)) (l:List Prt) (e at_:Nat) (pv:Option Bool),mkF a l=some (e,b.take at_,pv)→EndOld l e pv→Rises s e at_ ks→at_≤b.length →
    ∃ e' pv',mkF a (ks.foldl (partI b) (l,at_)).1=some (e',b.take (ks.foldl (partI b) (l,at_)).2,pv')∧EndOld (ks.foldl (partI b) (l,at_)).1 e' pv'∧keptV (ks.foldl (partI b) (l,at_)).1=keptV l+ks.length∧(ks.foldl (partI b) (l,at_)).2≤b.length
  | [],l,e,at_,pv,h,hE,_,hb=>⟨e,pv,h,hE,rfl,hb⟩
  | p :: ks, l, e, at_, pv, h, hE, hr, hb => by
    obtain ⟨r1,r2,r3,r4⟩:=hr
    obtain ⟨q1,q2,q3⟩:=hs _ _ r3
    obtain ⟨m1,m2,m3⟩:=mk_step (p:=p) h hE r1 r2 q1 q2 q3
    have ih:=mk_fold hs ks (partI b (l,at_) p).1 (p.1+1) (p.2+1) (some true) m1 m2 r4 (by omega)
    obtain ⟨e',pv',i1,i2,i3,i4⟩:=ih
    refine ⟨e',pv',i1,i2,?_,i4⟩
    rw [List.length_cons]
    have i3':keptV (List.foldl (partI b) (partI b (l,at_) p) ks).1=keptV (partI b (l,at_) p).1+ks.length:=i3
    show keptV (List.foldl (partI b) (partI b (l,at_) p) ks).1=_
    rw [i3',m3];omega
theorem parts_mk {a b:List Tok} {s:Nat→Nat→Bool} {d:Tok} (hs:∀ i k,s i k=true→i < a.length∧k < b.length∧a.getD i d=b.getD k d) (ks:List (Nat×Nat)) (hr:Rises s 0 0 ks):(∃ e pv,mkF a (partsV b ks)=some (e,b,pv))∧keptV (partsV b ks)=ks.length:=by
 obtain ⟨e,pv,h1,h2,h3,h4⟩:=mk_fold hs ks [] 0 0 none (by unfold mkF;rw [List.take_zero];rfl) (.inl ⟨rfl,rfl⟩) hr (Nat.zero_le _)
 obtain ⟨pv',m1,m2,_⟩:=mk_fresh h1 h2 h4 (Nat.le_refl _)
 rw [List.take_length] at m1
 refine ⟨⟨e,pv',m1⟩,?_⟩
 show keptV (freshV b (partsI b ks).1 (partsI b ks).2 b.length)=_
 have m2':keptV (freshV b (partsI b ks).1 (partsI b ks).2 b.length)=keptV (partsI b ks).1:=m2
 have h3':keptV (partsI b ks).1=keptV []+ks.length:=h3
 rw [m2',h3']
 show 0+_=_
 omega
theorem freshV_len (b:List Tok) (l:List Prt) (i j:Nat):(freshV b l i j).length≤l.length+1:=by unfold freshV;split <;> simp
theorem glueV_len (l:List Prt) (x:Nat):(glueV l x).length≤l.length+1:=by unfold glueV;split <;> simp
theorem partsI_len (b:List Tok) (ks:List (Nat×Nat)):∀ i,(partsI b (ks.take i)).1.length≤2 * i
  | 0=>by rw [List.take_zero];exact Nat.le_refl _
  | i + 1 => by
    have ih:=partsI_len b ks i
    by_cases h:i < ks.length
    · rw [take_snoc (0,0) h,partsI_snoc]
      have h1:=freshV_len b (partsI b (ks.take i)).1 (partsI b (ks.take i)).2 (ks.getD i (0,0)).2
      have h2:=glueV_len (freshV b (partsI b (ks.take i)).1 (partsI b (ks.take i)).2 (ks.getD i (0,0)).2) (ks.getD i (0,0)).1
      show (glueV (freshV b (partsI b (ks.take i)).1 (partsI b (ks.take i)).2 (ks.getD i (0,0)).2) (ks.getD i (0,0)).1).length≤_
      omega
    · have e1:ks.take (i+1)=ks.take i:=by rw [List.take_of_length_le (by omega),List.take_of_length_le (by omega)]
      rw [e1];omega
theorem partsI_next (b:List Tok) {ks:List (Nat×Nat)} {i:Nat} (h:i < ks.length):partsI b (ks.take (i+1))=partI b (partsI b (ks.take i)) (ks.getD i (0,0)):=by
 rw [take_snoc (0,0) h,partsI_snoc]
theorem Rises.at {s:Nat→Nat→Bool}:∀ {ks:List (Nat×Nat)} {x y:Nat},Rises s x y ks→∀ i,i < ks.length→s (ks.getD i (0,0)).1 (ks.getD i (0,0)).2=true
  | p::ks,x,y,h,0,_=>h.2.2.1
  | p :: ks, x, y, h, i + 1, hi => by
    have:=Rises.at h.2.2.2 i (by simpa using hi)
    simpa using this
  | [],x,y,h,i,hi=>by simp at hi
theorem partsI_at (b:List Tok) {ks:List (Nat×Nat)}:∀ i,i≤ks.length→(partsI b (ks.take i)).2=if i=0 then 0 else (ks.getD (i - 1) (0,0)).2+1
 | 0,_=>by rw [List.take_zero,if_pos rfl];rfl
 | i+1,h=>by rw [partsI_next b (by omega),if_neg (by omega),Nat.add_sub_cancel];rfl
end Go.Proofs.Ytkcfhciffdnmmaa
namespace Go.Proofs.Ytkcfhciffdnmmaa
set_option linter.unusedSimpArgs false
set_option linter.unusedVariables false
set_option maxRecDepth 100000
set_option maxHeartbeats 1000000
open Go.RowKit
def partF (p:Prt):Nat→HV
 | 0=>boolV p.old
 | 1=>intV (p.f:Int)
 | 2=>intV (p.t:Int)
 | _=>toksV p.new
@[reducible] def partH (p:Prt):HV:=.agg 4 (partF p)
@[reducible] def prtsF (l:List Prt):Nat→Nat→HV:=fun i=>partF (l.getD i default)
@[reducible] def prtsV (l:List Prt):HV:=.sl 4 l.length (prtsF l)
theorem fz_partF {sh:List (Nat×HObj)} (p:Prt) (j:Nat):Fz sh (partF p j) (partF p j):=by unfold partF;split <;> first | exact .imm _ | exact fz_toks _
instance (p:Prt) (j:Nat):Frz (partF p j):=⟨fz_partF p j⟩
theorem fz4 {sh:List (Nat×HObj)} {f f':Nat→HV} (h0:Fz sh (f 0) (f' 0)) (h1:Fz sh (f 1) (f' 1)) (h2:Fz sh (f 2) (f' 2)) (h3:Fz sh (f 3) (f' 3)):Fz sh (.agg 4 f) (.agg 4 f'):=.agg _ _ _ fun i hi=>by
 match i,hi with
 | 0,_=>exact h0
 | 1,_=>exact h1
 | 2,_=>exact h2
 | 3,_=>exact h3
theorem fz_toksO {sh:List (Nat×HObj)} {id g n on fl:Nat} {ty:TypeId} {F:Nat→Nat→HV} {l:List Tok} (ho:(id,⟨g,on,12,ty,fl,F⟩)∈sh) (hon:n≤on) (hn:n=l.length) (hF:∀ i j,i < n→j < 12→F i j=tokF (l.getD i tok0) j):Fz sh (.os id g 0 n) (toksV l):=by
 subst hn
 refine Fz.os id g 0 _ _ _ ho rfl (by show 0+l.length≤on;omega) (fun i j hi hj=>?_)
 show Fz sh (F (0+i) j) (tokF (l.getD i tok0) j)
 rw [Nat.zero_add,hF i j hi hj];exact fz_tokF _ _
theorem put_h (l:List Tok) (h0:0 < l.length) (hl:l.length≤100000):HPure Try.prog 41 [toksV l] (partH ⟨false,0,0,l⟩):=by
 refine hpure_of Try.func41 rfl kr _ _ _ rfl 6 rfl rfl (fun w F=>?_)
 refine srg fun N h1=>?_
 refine hm_1 2 (hop_alloc (id:=2) (sz:=4) zc_82 rfl rfl omx omx) rfl rfl pre0 rfl rfl (c':=1) rfl ?_
 refine snl h1<|srg fun N h2=>sm ?_
 first
 | refine hm_1 4 (hop_appendN (id:=4) ei_22 (nb rfl) (nb rfl) rfl (src_sl rfl) (by first | exact Nat.le_of_ble_eq_true rfl | omega | (dsimp only;omega) | (simp <;> omega)) (by first | exact Nat.le_of_ble_eq_true rfl | omega | (dsimp only;omega) | (simp <;> omega))) rfl rfl pre0 rfl rfl (c':=2) rfl ?_
 | refine hm_1 4 (hop_appendN (id:=4) ei_22 (nb rfl) (nb rfl) rfl (srl_os0 rfl (by first | exact Nat.le_of_ble_eq_true rfl | omega | (dsimp only;omega) | (simp <;> omega))) (by first | exact Nat.le_of_ble_eq_true rfl | omega | (dsimp only;omega) | (simp <;> omega)) (by first | exact Nat.le_of_ble_eq_true rfl | omega | (dsimp only;omega) | (simp <;> omega))) rfl rfl (pre1 rfl) rfl rfl (c':=2) rfl ?_
 | refine hm_1 4 (hop_appendN (id:=4) ei_22 (nb rfl) (nb rfl) rfl (srl_os rfl (by first | exact Nat.le_of_ble_eq_true rfl | omega | (dsimp only;omega) | (simp <;> omega))) (by first | exact Nat.le_of_ble_eq_true rfl | omega | (dsimp only;omega) | (simp <;> omega)) (by first | exact Nat.le_of_ble_eq_true rfl | omega | (dsimp only;omega) | (simp <;> omega))) rfl rfl (pre1 rfl) rfl rfl (c':=2) rfl ?_
 refine s0 (hop_build (hs:=[(3,1,_)]) st_82 rfl rfl ⟨rfl,rfl,rfl,rfl,rfl,trivial⟩) ?_
 first
 | refine hm_s1 (hol_storeW ty_82 rfl rfl rfl rfl) rfl rfl (pre1 rfl) (c':=3) rfl ?_
 | refine hm_s1 (hol_store ty_82 rfl rfl rfl rfl (by first | exact Nat.le_of_ble_eq_true rfl | omega | (dsimp only;omega) | (simp <;> omega)) (by first | exact Nat.le_of_ble_eq_true rfl | omega | (dsimp only;omega) | (simp <;> omega)) (by first | exact Nat.le_of_ble_eq_true rfl | omega | (dsimp only;omega) | (simp <;> omega))) rfl rfl (pre1 rfl) (c':=3) rfl ?_
 refine snl h2<|hw_ret ?_
 refine hq_ret1 rfl (rvl_cell rfl rfl ty_82 rqc rfl rfl) [(4,_)] rfl (preC rfl pre0) ?_
 exact fz4 (.imm _) (.imm _) (.imm _) (fz_toksO (.head _) (Nat.le_refl _) rfl (fun i j hi hj=>rfl))
theorem keep_h (x y:Nat):HPure Try.prog 42 [intV (x:Int),intV (y:Int)] (partH ⟨true,x,y,[]⟩):=by
 refine hpure_of Try.func42 rfl kr _ _ _ rfl 8 rfl rfl (fun w F=>?_)
 refine srg fun N h1=>?_
 refine hm_1 4 (hop_alloc (id:=4) (sz:=4) zc_82 rfl rfl omx omx) rfl rfl pre0 rfl rfl (c':=1) rfl ?_
 refine snl h1<|srg fun N h2=>sm<|sm ?_
 refine s0 (hop_build (hs:=[(0,1,_),(1,1,_),(2,1,_)]) st_82 rfl rfl ⟨rfl,rfl,rfl,rfl,rfl,⟨rfl,rfl,rfl,rfl,rfl,⟨rfl,rfl,rfl,rfl,rfl,trivial⟩⟩⟩) ?_
 first
 | refine hm_s1 (hol_storeW ty_82 rfl rfl rfl rfl) rfl rfl (pre1 rfl) (c':=2) rfl ?_
 | refine hm_s1 (hol_store ty_82 rfl rfl rfl rfl (by first | exact Nat.le_of_ble_eq_true rfl | omega | (dsimp only;omega) | (simp <;> omega)) (by first | exact Nat.le_of_ble_eq_true rfl | omega | (dsimp only;omega) | (simp <;> omega)) (by first | exact Nat.le_of_ble_eq_true rfl | omega | (dsimp only;omega) | (simp <;> omega))) rfl rfl (pre1 rfl) (c':=2) rfl ?_
 refine snl h2<|hw_ret ?_
 refine hq_ret1 rfl (rvl_cell rfl rfl ty_82 rqc rfl rfl) [] rfl pre0 ?_
 exact fz4 (.imm _) (.imm _) (.imm _) (.nil _ _ _ (by decide) _)
theorem keptV_take {l:List Prt} {i:Nat} (h:i < l.length):keptV (l.take (i+1))=keptV (l.take i)+if (l.getD i default).old=true then (l.getD i default).t - (l.getD i default).f else 0:=by
 rw [take_snoc default h,keptV_snoc]
theorem kept_h (l:List Prt) (hl:l.length≤1000) (hs:∀ i,i < l.length→(l.getD i default).old=true→(l.getD i default).f≤1000∧(l.getD i default).t≤1000):HPure Try.prog 13 [prtsV l] (intV (keptV l:Int)):=by
  have hb:∀ i,i≤l.length→keptV (l.take i)≤1000 * i:=by
    intro i
    induction i with
    | zero=>intro _;rw [List.take_zero];exact Nat.le_refl _
    | succ i ih =>
      intro hi
      have:=ih (by omega)
      have h2:=hs i (by omega)
      rw [keptV_take (by omega)]
      split
      · rename_i h;have:=h2 h;omega
      · omega
  refine hpure_of Try.func13 rfl kr _ _ _ rfl 24 rfl rfl (fun w F=>?_)
  refine srg fun N h1=>sa<|snl h1<|srg fun N h2=>sa<|snl h2<|hw_seq fun Nh3 h3=>srg fun N h4=>sm ?_
  first
  | refine hq_ 7 (hop_len_sl (T:=32) rfl (elOf_spec el_32).1 rfl) rfl rfl pre0 rfl rfl ?_
  | refine hq_ 7 (hop_len_os (T:=32) rfl (elOf_spec el_32).1 rfl) rfl rfl pre0 rfl rfl ?_
  | refine hq_ 7 (hop_len_nil (T:=32) rfl (elOf_spec el_32).1 rfl) rfl rfl pre0 rfl rfl ?_
  refine sm<|snl h4<|hw_block ?_
  refine hw_loopc (α:=Nat) (fun x c=>⟨24,[(3,.v (intV (keptV (l.take x):Int))),(6,.v (prtsV l)),(7,.v (intV (l.length:Int))),(8,.v (intV (x:Int)))],[],c⟩) (fun x=>x≤l.length) (fun x=>l.length - x) (0) (by exact Nat.zero_le _) (hsub_of rfl (Nat.le_refl _) tsa HpSub.nil) (fun i c hx NhL5 hL5=>?_)
  (try dsimp only at hx hL5 ⊢)
  refine srg fun N h6=>?_
  refine s0 hli ?_
  refine snl h6<|hw_seq fun Nh7 h7=>?_
  refine wc (fun hc0=>?_) (fun hc0=>?_)
  · have hr0:=hc0;(try simp only [hcs,Int.reduceToNat] at hc0)
    have hil:i < l.length:=om;have hbi:=hb i om;have hsi:=hs i hil
    refine hw_skip<|h7 _<|hw_seq fun Nh8 h8=>hw_block<|srg fun N h9=>?_
    first
    | refine hq_ 10 (hop_ia_sl el_32 rfl rfl (by first | exact Nat.le_of_ble_eq_true rfl | omega | (dsimp only;omega) | (simp <;> omega)) (by first | exact Nat.le_of_ble_eq_true rfl | omega | (dsimp only;omega) | (simp <;> omega)) (by first | exact Nat.le_of_ble_eq_true rfl | omega | (dsimp only;omega) | (simp <;> omega))) rfl rfl pre0 rfl rfl ?_
    | refine hq_ 10 (hol_ia_os el_32 rfl rfl (by first | exact Nat.le_of_ble_eq_true rfl | omega | (dsimp only;omega) | (simp <;> omega)) (by first | exact Nat.le_of_ble_eq_true rfl | omega | (dsimp only;omega) | (simp <;> omega))) rfl rfl (pre1 rfl) rfl rfl ?_
    first
    | refine hq_ 11 (hol_load ty_82 rfl (by first | exact Nat.le_of_ble_eq_true rfl | omega | (dsimp only;omega) | (simp <;> omega)) (by first | exact Nat.le_of_ble_eq_true rfl | omega | (dsimp only;omega) | (simp <;> omega)) (fun h=>(by first | rfl | cases h))) rfl rfl (pre1 rfl) rfl rfl ?_
    | refine hq_ 11 (hop_load_fp ty_82 rfl (by first | exact Nat.le_of_ble_eq_true rfl | omega | (dsimp only;omega) | (simp <;> omega)) (fun h=>(by first | rfl | cases h))) rfl rfl pre0 rfl rfl ?_
    refine hm_1 5 (hop_alloc (id:=5) (sz:=4) zc_82 rfl rfl omx omx) rfl rfl pre0 rfl rfl (c':=c+1) rfl ?_
    first
    | refine hm_s1 (hol_storeW ty_82 rfl rfl rfl rfl) rfl rfl (pre1 rfl) (c':=c+2) rfl ?_
    | refine hm_s1 (hol_store ty_82 rfl rfl rfl rfl (by first | exact Nat.le_of_ble_eq_true rfl | omega | (dsimp only;omega) | (simp <;> omega)) (by first | exact Nat.le_of_ble_eq_true rfl | omega | (dsimp only;omega) | (simp <;> omega)) (by first | exact Nat.le_of_ble_eq_true rfl | omega | (dsimp only;omega) | (simp <;> omega))) rfl rfl (pre1 rfl) (c':=c+2) rfl ?_
    refine snl h9<|srg fun N h10=>?_
    first
    | refine hq_ 12 (hop_fa fd_82_0 rfl) rfl rfl pre0 rfl rfl ?_
    | refine hq_ 12 (hop_fa_fp fd_82_0 rfl (by first | exact Nat.le_of_ble_eq_true rfl | omega | (dsimp only;omega) | (simp <;> omega))) rfl rfl pre0 rfl rfl ?_
    first
    | refine hq_ 13 (HOp.val (v':=boolV (l.getD i default).old) (hol_load ty_4 rfl (by first | exact Nat.le_of_ble_eq_true rfl | omega | (dsimp only;omega) | (simp <;> omega)) (by first | exact Nat.le_of_ble_eq_true rfl | omega | (dsimp only;omega) | (simp <;> omega)) (fun h=>(by first | rfl | cases h))) (rfl)) rfl rfl (pre1 rfl) rfl rfl ?_
    | refine hq_ 13 (HOp.val (v':=boolV (l.getD i default).old) (hop_load_fp ty_4 rfl (by first | exact Nat.le_of_ble_eq_true rfl | omega | (dsimp only;omega) | (simp <;> omega)) (fun h=>(by first | rfl | cases h))) (rfl)) rfl rfl pre0 rfl rfl ?_
    refine snl h10 ?_
    refine wc (fun hc1=>?_) (fun hc1=>?_)
    · have hr1:=hc1;(try simp only [hcs,Int.reduceToNat] at hc1)
      have hsj:=hsi hc1
      refine hw_region<|sm ?_
      first
      | refine hq_ 15 (hop_fa fd_82_2 rfl) rfl rfl pre0 rfl rfl ?_
      | refine hq_ 15 (hop_fa_fp fd_82_2 rfl (by first | exact Nat.le_of_ble_eq_true rfl | omega | (dsimp only;omega) | (simp <;> omega))) rfl rfl pre0 rfl rfl ?_
      first
      | refine hq_ 16 (HOp.val (v':=intV ((l.getD i default).t:Int)) (hol_load ty_3 rfl (by first | exact Nat.le_of_ble_eq_true rfl | omega | (dsimp only;omega) | (simp <;> omega)) (by first | exact Nat.le_of_ble_eq_true rfl | omega | (dsimp only;omega) | (simp <;> omega)) (fun h=>(by first | rfl | cases h))) (rfl)) rfl rfl (pre1 rfl) rfl rfl ?_
      | refine hq_ 16 (HOp.val (v':=intV ((l.getD i default).t:Int)) (hop_load_fp ty_3 rfl (by first | exact Nat.le_of_ble_eq_true rfl | omega | (dsimp only;omega) | (simp <;> omega)) (fun h=>(by first | rfl | cases h))) (rfl)) rfl rfl pre0 rfl rfl ?_
      first
      | refine hq_ 17 (hop_fa fd_82_1 rfl) rfl rfl pre0 rfl rfl ?_
      | refine hq_ 17 (hop_fa_fp fd_82_1 rfl (by first | exact Nat.le_of_ble_eq_true rfl | omega | (dsimp only;omega) | (simp <;> omega))) rfl rfl pre0 rfl rfl ?_
      first
      | refine hq_ 18 (HOp.val (v':=intV ((l.getD i default).f:Int)) (hol_load ty_3 rfl (by first | exact Nat.le_of_ble_eq_true rfl | omega | (dsimp only;omega) | (simp <;> omega)) (by first | exact Nat.le_of_ble_eq_true rfl | omega | (dsimp only;omega) | (simp <;> omega)) (fun h=>(by first | rfl | cases h))) (rfl)) rfl rfl (pre1 rfl) rfl rfl ?_
      | refine hq_ 18 (HOp.val (v':=intV ((l.getD i default).f:Int)) (hop_load_fp ty_3 rfl (by first | exact Nat.le_of_ble_eq_true rfl | omega | (dsimp only;omega) | (simp <;> omega)) (fun h=>(by first | rfl | cases h))) (rfl)) rfl rfl pre0 rfl rfl ?_
      first
      | refine hq_ 19 (hop_subi rfl rfl rfl (by first | exact Nat.le_of_ble_eq_true rfl | omega | (dsimp only;omega) | (simp <;> omega)) (by first | exact Nat.le_of_ble_eq_true rfl | omega | (dsimp only;omega) | (simp <;> omega))) rfl rfl pre0 rfl rfl ?_
      | refine hq_ 19 (hop_sub rfl rfl) rfl rfl pre0 rfl rfl ?_
      refine s0 (hop_max rfl rfl) ?_
      first
      | refine hq_ 21 (hop_addi rfl rfl rfl (by first | exact Nat.le_of_ble_eq_true rfl | omega | (dsimp only;omega) | (simp <;> omega)) (by first | exact Nat.le_of_ble_eq_true rfl | omega | (dsimp only;omega) | (simp <;> omega))) rfl rfl pre0 rfl rfl ?_
      | refine hq_ 21 (hop_add rfl rfl) rfl rfl pre0 rfl rfl ?_
      refine sa<|hseq_nil<|hq_block<|h8 _<|hw_region ?_
      first
      | refine hq_ 22 (hop_addi rfl rfl rfl (by first | exact Nat.le_of_ble_eq_true rfl | omega | (dsimp only;omega) | (simp <;> omega)) (by first | exact Nat.le_of_ble_eq_true rfl | omega | (dsimp only;omega) | (simp <;> omega))) rfl rfl pre0 rfl rfl ?_
      | refine hq_ 22 (hop_add rfl rfl) rfl rfl pre0 rfl rfl ?_
      refine sm<|hseq_nil ?_
      exact hL5 (i+1) _ _ (by (try dsimp only);omega) (by (try dsimp only);omega) (hsub_of rfl (Nat.le_refl _) (TmSub.cons rfl (by rw [keptV_take hil,if_pos hc1];exact sb_intV om) tsa) HpSub.nil)
    have hr1:=hc1;(try simp only [hcs,Int.reduceToNat] at hc1)
    refine hw_skip<|hq_block<|h8 _<|hw_region ?_
    first
    | refine hq_ 22 (hop_addi rfl rfl rfl (by first | exact Nat.le_of_ble_eq_true rfl | omega | (dsimp only;omega) | (simp <;> omega)) (by first | exact Nat.le_of_ble_eq_true rfl | omega | (dsimp only;omega) | (simp <;> omega))) rfl rfl pre0 rfl rfl ?_
    | refine hq_ 22 (hop_add rfl rfl) rfl rfl pre0 rfl rfl ?_
    refine sm<|hseq_nil ?_
    exact hL5 (i+1) _ _ (by (try dsimp only);omega) (by (try dsimp only);omega) (hsub_of rfl (Nat.le_refl _) (TmSub.cons rfl (by rw [keptV_take hil,if_neg (by rw [hc1];decide)];exact .refl _) tsa) HpSub.nil)
  have hr0:=hc0;(try simp only [hcs,Int.reduceToNat] at hc0)
  obtain rfl:i=l.length:=om
  refine hw_exit ?_
  refine hq_then_exit<|hq_then_exit<|hq_block_here<|h3 _<|srg fun N h11=>sm<|sa<|snl h11<|hw_ret ?_
  refine hq_ret1 rfl (rval_tmp rfl) [] rfl pre0 ?_
  rw [List.take_length];exact .imm _
@[reducible] def toksF (l:List Tok):Nat→Nat→HV:=fun i=>tokF (l.getD i tok0)
theorem same13_h (l m:List Tok) (hl:l.length≤1000000) (hm:m.length≤1000000):HPure Try.prog 8 [toksV l,toksV m] (boolV (decide (l=m))):=by
 refine ⟨⟨_,_,Try.func8,rfl,by kernel_rfl⟩,fun w F vs hF hr hw=>?_⟩
 obtain ⟨u,v,rfl,h1,h2⟩:=rep2 hr
 obtain ⟨A1,c1,rfl,_,_,s1⟩:=toks_of h1
 obtain ⟨A2,c2,rfl,_,_,s2⟩:=toks_of h2
 refine (Same13_any A1 A2 l.length m.length c1 c2 w.heap.size w.heap.size l m w rfl rfl s1 s2 (by omega) (by omega)).mono ?_
 rintro e w' ⟨rfl,n,rfl⟩
 exact pure_imm hF below_drews
theorem cat_toks {o l2:List Tok} {m k:Nat} {G:Nat→Nat→HV} (hm:o.length=m) (hk:l2.length=k) (hG:∀ i j,i < k→j < 12→G i j=tokF (l2.getD i tok0) j) (i j:Nat) (hi:i < m+k) (hj:j < 12):cat m (toksF o) G i j=tokF ((o++l2).getD i tok0) j:=by
 subst hm;subst hk
 by_cases h:i < o.length
 ·rw [cat_lt h]
  show tokF (o.getD i tok0) j=_
  rw [List.getD_eq_getElem?_getD,List.getD_eq_getElem?_getD,List.getElem?_append_left h]
 ·rw [cat_ge (by omega),hG _ _ (by omega) hj,List.getD_eq_getElem?_getD,List.getD_eq_getElem?_getD,List.getElem?_append_right (by omega)]
theorem osub_toks {g n:Nat} {F:Nat→Nat→HV} {o:List Tok} (h:∀ i j,i < n→j < 12→F i j=tokF (o.getD i tok0) j):OSub ⟨g,n,12,71,0,F⟩ ⟨g,n,12,71,0,toksF o⟩:=.of fun i j hi hj=>by
 rw [h i j hi hj];exact .refl _
theorem cut_get {a:List Tok} {f t i:Nat} (h:i < t - f):((a.take t).drop f).getD i tok0=a.getD (f+i) tok0:=by
 rw [List.getD_eq_getElem?_getD,List.getD_eq_getElem?_getD,List.getElem?_drop,List.getElem?_take,if_pos (by omega)]
theorem made_h (a b:List Tok) (l:List Prt) (ha:a.length≤1000) (hb:b.length≤1000) (hl:l.length≤10000) (hmk:∃ E PV,mkF a l=some (E,b,PV)):HPure Try.prog 12 [toksV a,toksV b,prtsV l] (boolV true):=by
 obtain ⟨E0,PV,hmk⟩:=hmk
 refine hpure_of Try.func12 rfl kr _ _ _ rfl 94 rfl rfl (fun w F=>?_)
 refine srg fun N h1=>sa<|snl h1<|srg fun N h2=>sa<|snl h2<|srg fun N h3=>sa<|snl h3<|hw_seq fun Nh4 h4=>srg fun N h5=>sa<|snl h5<|hw_block ?_
 refine hw_own 7 9006 12 71 ((toksF [])) rfl (by decide) rfl (c':=1) rfl ?_
 refine hw_loopc (α:=Nat×Nat×Nat×Nat×List Tok) (fun x c=>⟨94,[(0,.v (toksV a)),(1,.v (toksV b)),(2,.v (prtsV l)),(7,.v (.os 9006 x.2.2.1 0 x.2.2.2.1)),(8,.v (intV (x.2.1:Int))),(9,.v (intV (x.1:Int)))],[(9006,⟨x.2.2.1,x.2.2.2.1,12,71,0,toksF x.2.2.2.2⟩)],c⟩) (fun x=>x.1≤l.length∧x.2.2.2.2.length=x.2.2.2.1∧∃ pv,mkF a (l.take x.1)=some (x.2.1,x.2.2.2.2,pv)) (fun x=>l.length - x.1) ((0,0,0,0,[])) (by exact ⟨Nat.zero_le _,rfl,none,by rw [List.take_zero];rfl⟩) (hsub_of rfl (Nat.le_refl _) tsa hsa) (fun x c hx NhL6 hL6=>?_)
 revert hx hL6;obtain ⟨i,e,g,m,o⟩:=x;intro hx hL6;dsimp only at hx hL6 ⊢
 obtain ⟨hi,hm,pv,hmi⟩:=hx
 refine hw_seq fun Nh7 h7=>srg fun N h8=>sm<|sm ?_
 first
 | refine hq_ 13 (hop_len_sl (T:=32) rfl (elOf_spec el_32).1 rfl) rfl rfl pre0 rfl rfl ?_
 | refine hq_ 13 (hop_len_os (T:=32) rfl (elOf_spec el_32).1 rfl) rfl rfl pre0 rfl rfl ?_
 | refine hq_ 13 (hop_len_nil (T:=32) rfl (elOf_spec el_32).1 rfl) rfl rfl pre0 rfl rfl ?_
 refine s0 hli ?_
 refine snl h8 ?_
 refine wc (fun hc0=>?_) (fun hc0=>?_)
 ·have hr0:=hc0;(try simp only [hcs,Int.reduceToNat] at hc0)
  have hil:i < l.length:=om;have hn:=mkF_next a hil;obtain ⟨⟨e1,o1,pv1⟩,hr'⟩:=mkF_take hmk (i+1);rw [hmi] at hn;have hla:=mkF_last hi hmi;have hle:=mkF_len hmk hmi;have hle1:=mkF_len hmk hr';rw [hr'] at hn
  refine hw_skip<|h7 _<|hw_seq fun Nh9 h9=>hw_block<|srg fun N h10=>sm<|sm ?_
  first
  | refine hq_ 19 (hop_ia_sl el_32 rfl rfl (by first | exact Nat.le_of_ble_eq_true rfl | omega | (dsimp only;omega) | (simp <;> omega)) (by first | exact Nat.le_of_ble_eq_true rfl | omega | (dsimp only;omega) | (simp <;> omega)) (by first | exact Nat.le_of_ble_eq_true rfl | omega | (dsimp only;omega) | (simp <;> omega))) rfl rfl pre0 rfl rfl ?_
  | refine hq_ 19 (hol_ia_os el_32 rfl rfl (by first | exact Nat.le_of_ble_eq_true rfl | omega | (dsimp only;omega) | (simp <;> omega)) (by first | exact Nat.le_of_ble_eq_true rfl | omega | (dsimp only;omega) | (simp <;> omega))) rfl rfl (pre1 rfl) rfl rfl ?_
  first
  | refine hq_ 20 (hol_load ty_82 rfl (by first | exact Nat.le_of_ble_eq_true rfl | omega | (dsimp only;omega) | (simp <;> omega)) (by first | exact Nat.le_of_ble_eq_true rfl | omega | (dsimp only;omega) | (simp <;> omega)) (fun h=>(by first | rfl | cases h))) rfl rfl (pre1 rfl) rfl rfl ?_
  | refine hq_ 20 (hop_load_fp ty_82 rfl (by first | exact Nat.le_of_ble_eq_true rfl | omega | (dsimp only;omega) | (simp <;> omega)) (fun h=>(by first | rfl | cases h))) rfl rfl pre0 rfl rfl ?_
  refine hm_1 10 (hop_alloc (id:=10) (sz:=4) zc_82 rfl rfl omx omx) rfl rfl pre0 rfl rfl (c':=c+1) rfl ?_
  first
  | refine hm_s1 (hol_storeW ty_82 rfl rfl rfl rfl) rfl rfl (pre1 rfl) (c':=c+2) rfl ?_
  | refine hm_s1 (hol_store ty_82 rfl rfl rfl rfl (by first | exact Nat.le_of_ble_eq_true rfl | omega | (dsimp only;omega) | (simp <;> omega)) (by first | exact Nat.le_of_ble_eq_true rfl | omega | (dsimp only;omega) | (simp <;> omega)) (by first | exact Nat.le_of_ble_eq_true rfl | omega | (dsimp only;omega) | (simp <;> omega))) rfl rfl (pre1 rfl) (c':=c+2) rfl ?_
  refine snl h10<|hw_seq fun Nh11 h11=>srg fun N h12=>?_
  first
  | refine hq_ 21 (hop_fa fd_82_0 rfl) rfl rfl pre0 rfl rfl ?_
  | refine hq_ 21 (hop_fa_fp fd_82_0 rfl (by first | exact Nat.le_of_ble_eq_true rfl | omega | (dsimp only;omega) | (simp <;> omega))) rfl rfl pre0 rfl rfl ?_
  first
  | refine hq_ 22 (HOp.val (v':=boolV (l.getD i default).old) (hol_load ty_4 rfl (by first | exact Nat.le_of_ble_eq_true rfl | omega | (dsimp only;omega) | (simp <;> omega)) (by first | exact Nat.le_of_ble_eq_true rfl | omega | (dsimp only;omega) | (simp <;> omega)) (fun h=>(by first | rfl | cases h))) (rfl)) rfl rfl (pre1 rfl) rfl rfl ?_
  | refine hq_ 22 (HOp.val (v':=boolV (l.getD i default).old) (hop_load_fp ty_4 rfl (by first | exact Nat.le_of_ble_eq_true rfl | omega | (dsimp only;omega) | (simp <;> omega)) (fun h=>(by first | rfl | cases h))) (rfl)) rfl rfl pre0 rfl rfl ?_
  refine s0 (hop_not rfl) ?_
  refine snl h12 ?_
  refine wc (fun hc1=>?_) (fun hc1=>?_)
  ·have hr1:=hc1;(try simp only [hcs,Int.reduceToNat] at hc1)
   obtain ⟨q1,q2⟩:=mkS_new hn.symm (by simpa using hr1);injection q2 with q2 q3;injection q3 with q3 q4;have hle2:=hle1;rw [q3,List.length_append] at hle2
   refine hw_seq fun Nh13 h13=>srg fun N h14=>?_
   first
   | refine hq_ 24 (hop_fa fd_82_3 rfl) rfl rfl pre0 rfl rfl ?_
   | refine hq_ 24 (hop_fa_fp fd_82_3 rfl (by first | exact Nat.le_of_ble_eq_true rfl | omega | (dsimp only;omega) | (simp <;> omega))) rfl rfl pre0 rfl rfl ?_
   first
   | refine hq_ 25 (HOp.val (v':=toksV (l.getD i default).new) (hol_load ty_22 rfl (by first | exact Nat.le_of_ble_eq_true rfl | omega | (dsimp only;omega) | (simp <;> omega)) (by first | exact Nat.le_of_ble_eq_true rfl | omega | (dsimp only;omega) | (simp <;> omega)) (fun h=>(by first | rfl | cases h))) (rfl)) rfl rfl (pre1 rfl) rfl rfl ?_
   | refine hq_ 25 (HOp.val (v':=toksV (l.getD i default).new) (hop_load_fp ty_22 rfl (by first | exact Nat.le_of_ble_eq_true rfl | omega | (dsimp only;omega) | (simp <;> omega)) (fun h=>(by first | rfl | cases h))) (rfl)) rfl rfl pre0 rfl rfl ?_
   first
   | refine hq_ 26 (hop_len_sl (T:=22) rfl (elOf_spec el_22).1 rfl) rfl rfl pre0 rfl rfl ?_
   | refine hq_ 26 (hop_len_os (T:=22) rfl (elOf_spec el_22).1 rfl) rfl rfl pre0 rfl rfl ?_
   | refine hq_ 26 (hop_len_nil (T:=22) rfl (elOf_spec el_22).1 rfl) rfl rfl pre0 rfl rfl ?_
   refine s0 hqi ?_
   refine sm ?_
   first
   | refine stg 28 (fun hb=>hop_move rfl) rfl rfl rfl rfl rfl ?_
   | refine sth 28 (fun hb=>hop_move rfl) rfl rfl rfl rfl rfl ?_
   first
   | refine stg 28 (fun hb=>hop_gtr rfl rfl) rfl rfl rfl rfl rfl ?_
   | refine sth 28 (fun hb=>hop_gtr rfl rfl) rfl rfl rfl rfl rfl ?_
   first
   | refine stg 28 (fun hb=>hop_move rfl) rfl rfl rfl rfl rfl ?_
   | refine sth 28 (fun hb=>hop_move rfl) rfl rfl rfl rfl rfl ?_
   first
   | refine stg 31 (fun hb=>hop_move rfl) rfl rfl rfl rfl rfl ?_
   | refine hq_g3 32 7 31 28 false true _ _ (fun hb hb2=>hop_move rfl) rfl rfl rfl rfl rfl pre0 rfl rfl rfl ?_
   | refine sth 31 (fun hb=>hop_move rfl) rfl rfl rfl rfl rfl ?_
   first
   | refine stg 31 (fun hb=>hop_move rfl) rfl rfl rfl rfl rfl ?_
   | refine hq_g3 33 7 31 28 false true _ _ (fun hb hb2=>hop_move rfl) rfl rfl rfl rfl rfl pre0 rfl rfl rfl ?_
   | refine sth 31 (fun hb=>hop_move rfl) rfl rfl rfl rfl rfl ?_
   first
   | refine stg 31 (fun hb=>hop_subi rfl rfl rfl (by first | exact Nat.le_of_ble_eq_true rfl | (simp at hb;first | omega | (dsimp only;omega) | (simp <;> omega)) | omega | (dsimp only;omega)) (by first | exact Nat.le_of_ble_eq_true rfl | (simp at hb;first | omega | (dsimp only;omega) | (simp <;> omega)) | omega | (dsimp only;omega))) rfl rfl rfl rfl rfl ?_
   | refine hq_g3 34 7 31 28 false true _ _ (fun hb hb2=>hop_subi rfl rfl rfl (by first | exact Nat.le_of_ble_eq_true rfl | (simp at hb;omega) | (simp at hb2;omega) | (simp at hb hb2;first | omega | (dsimp only;omega) | (simp <;> omega)) | omega | (dsimp only;omega)) (by first | exact Nat.le_of_ble_eq_true rfl | (simp at hb;omega) | (simp at hb2;omega) | (simp at hb hb2;first | omega | (dsimp only;omega) | (simp <;> omega)) | omega | (dsimp only;omega))) rfl rfl rfl rfl rfl pre0 rfl rfl rfl ?_
   | refine sth 31 (fun hb=>hop_subi rfl rfl rfl (by first | exact Nat.le_of_ble_eq_true rfl | (simp at hb;first | omega | (dsimp only;omega) | (simp <;> omega)) | omega | (dsimp only;omega)) (by first | exact Nat.le_of_ble_eq_true rfl | (simp at hb;first | omega | (dsimp only;omega) | (simp <;> omega)) | omega | (dsimp only;omega))) rfl rfl rfl rfl rfl ?_
   | refine stg 31 (fun hb=>hop_sub rfl rfl) rfl rfl rfl rfl rfl ?_
   | refine hq_g3 34 7 31 28 false true _ _ (fun hb hb2=>hop_sub rfl rfl) rfl rfl rfl rfl rfl pre0 rfl rfl rfl ?_
   | refine sth 31 (fun hb=>hop_sub rfl rfl) rfl rfl rfl rfl rfl ?_
   first
   | refine stg 31 (fun hb=>hop_ia_sl el_32 rfl rfl (by first | exact Nat.le_of_ble_eq_true rfl | (simp at hb;first | omega | (dsimp only;omega) | (simp <;> omega)) | omega | (dsimp only;omega)) (by first | exact Nat.le_of_ble_eq_true rfl | (simp at hb;first | omega | (dsimp only;omega) | (simp <;> omega)) | omega | (dsimp only;omega)) (by first | exact Nat.le_of_ble_eq_true rfl | (simp at hb;first | omega | (dsimp only;omega) | (simp <;> omega)) | omega | (dsimp only;omega))) rfl rfl rfl rfl rfl ?_
   | refine hq_g3 35 7 31 28 false true _ _ (fun hb hb2=>hop_ia_sl el_32 rfl rfl (by first | exact Nat.le_of_ble_eq_true rfl | (simp at hb;omega) | (simp at hb2;omega) | (simp at hb hb2;first | omega | (dsimp only;omega) | (simp <;> omega)) | omega | (dsimp only;omega)) (by first | exact Nat.le_of_ble_eq_true rfl | (simp at hb;omega) | (simp at hb2;omega) | (simp at hb hb2;first | omega | (dsimp only;omega) | (simp <;> omega)) | omega | (dsimp only;omega)) (by first | exact Nat.le_of_ble_eq_true rfl | (simp at hb;omega) | (simp at hb2;omega) | (simp at hb hb2;first | omega | (dsimp only;omega) | (simp <;> omega)) | omega | (dsimp only;omega))) rfl rfl rfl rfl rfl pre0 rfl rfl rfl ?_
   | refine sth 31 (fun hb=>hop_ia_sl el_32 rfl rfl (by first | exact Nat.le_of_ble_eq_true rfl | (simp at hb;first | omega | (dsimp only;omega) | (simp <;> omega)) | omega | (dsimp only;omega)) (by first | exact Nat.le_of_ble_eq_true rfl | (simp at hb;first | omega | (dsimp only;omega) | (simp <;> omega)) | omega | (dsimp only;omega)) (by first | exact Nat.le_of_ble_eq_true rfl | (simp at hb;first | omega | (dsimp only;omega) | (simp <;> omega)) | omega | (dsimp only;omega))) rfl rfl rfl rfl rfl ?_
   | refine hq_g 35 7 31 true _ (fun hb=>hol_ia_os el_32 rfl rfl (by first | exact Nat.le_of_ble_eq_true rfl | (simp at hb;first | omega | (dsimp only;omega) | (simp <;> omega)) | omega | (dsimp only;omega)) (by first | exact Nat.le_of_ble_eq_true rfl | (simp at hb;first | omega | (dsimp only;omega) | (simp <;> omega)) | omega | (dsimp only;omega))) rfl rfl rfl rfl (pre1 rfl) rfl rfl rfl ?_
   | refine hq_g3 35 7 31 28 false true _ _ (fun hb hb2=>hol_ia_os el_32 rfl rfl (by first | exact Nat.le_of_ble_eq_true rfl | (simp at hb;omega) | (simp at hb2;omega) | (simp at hb hb2;first | omega | (dsimp only;omega) | (simp <;> omega)) | omega | (dsimp only;omega)) (by first | exact Nat.le_of_ble_eq_true rfl | (simp at hb;omega) | (simp at hb2;omega) | (simp at hb hb2;first | omega | (dsimp only;omega) | (simp <;> omega)) | omega | (dsimp only;omega))) rfl rfl rfl rfl rfl (pre1 rfl) rfl rfl rfl ?_
   | refine hq_g2 35 7 31 _ _ true _ (fun hb=>hol_ia_os el_32 rfl rfl (by first | exact Nat.le_of_ble_eq_true rfl | (simp at hb;first | omega | (dsimp only;omega) | (simp <;> omega)) | omega | (dsimp only;omega)) (by first | exact Nat.le_of_ble_eq_true rfl | (simp at hb;first | omega | (dsimp only;omega) | (simp <;> omega)) | omega | (dsimp only;omega))) rfl rfl rfl rfl (pre1 rfl) rfl rfl rfl ?_
   first
   | refine stg 31 (fun hb=>hop_fa fd_82_0 rfl) rfl rfl rfl rfl rfl ?_
   | refine hq_g3 36 7 31 28 false true _ _ (fun hb hb2=>hop_fa fd_82_0 rfl) rfl rfl rfl rfl rfl pre0 rfl rfl rfl ?_
   | refine sth 31 (fun hb=>hop_fa fd_82_0 rfl) rfl rfl rfl rfl rfl ?_
   | refine stg 31 (fun hb=>hop_fa_fp fd_82_0 rfl (by first | exact Nat.le_of_ble_eq_true rfl | (simp at hb;first | omega | (dsimp only;omega) | (simp <;> omega)) | omega | (dsimp only;omega))) rfl rfl rfl rfl rfl ?_
   | refine hq_g3 36 7 31 28 false true _ _ (fun hb hb2=>hop_fa_fp fd_82_0 rfl (by first | exact Nat.le_of_ble_eq_true rfl | (simp at hb;omega) | (simp at hb2;omega) | (simp at hb hb2;first | omega | (dsimp only;omega) | (simp <;> omega)) | omega | (dsimp only;omega))) rfl rfl rfl rfl rfl pre0 rfl rfl rfl ?_
   | refine sth 31 (fun hb=>hop_fa_fp fd_82_0 rfl (by first | exact Nat.le_of_ble_eq_true rfl | (simp at hb;first | omega | (dsimp only;omega) | (simp <;> omega)) | omega | (dsimp only;omega))) rfl rfl rfl rfl rfl ?_
   first
   | refine hq_g 37 7 31 true _ (fun hb=>HOp.val (v':=boolV (l.getD (i - 1) default).old) (hol_load ty_4 rfl (by first | exact Nat.le_of_ble_eq_true rfl | (simp at hb;first | omega | (dsimp only;omega) | (simp <;> omega)) | omega | (dsimp only;omega)) (by first | exact Nat.le_of_ble_eq_true rfl | (simp at hb;first | omega | (dsimp only;omega) | (simp <;> omega)) | omega | (dsimp only;omega)) (fun h=>(by first | rfl | cases h))) ((by show boolV (l.getD ((i:Int) - 1).toNat default).old=_;rw [show ((i:Int) - 1).toNat=i - 1 by omega]))) rfl rfl rfl rfl (pre1 rfl) rfl rfl rfl ?_
   | refine hq_g3 37 7 31 28 false true _ _ (fun hb hb2=>HOp.val (v':=boolV (l.getD (i - 1) default).old) (hol_load ty_4 rfl (by first | exact Nat.le_of_ble_eq_true rfl | (simp at hb;omega) | (simp at hb2;omega) | (simp at hb hb2;first | omega | (dsimp only;omega) | (simp <;> omega)) | omega | (dsimp only;omega)) (by first | exact Nat.le_of_ble_eq_true rfl | (simp at hb;omega) | (simp at hb2;omega) | (simp at hb hb2;first | omega | (dsimp only;omega) | (simp <;> omega)) | omega | (dsimp only;omega)) (fun h=>(by first | rfl | cases h))) ((by show boolV (l.getD ((i:Int) - 1).toNat default).old=_;rw [show ((i:Int) - 1).toNat=i - 1 by omega]))) rfl rfl rfl rfl rfl (pre1 rfl) rfl rfl rfl ?_
   | refine hq_g2 37 7 31 _ _ true _ (fun hb=>HOp.val (v':=boolV (l.getD (i - 1) default).old) (hol_load ty_4 rfl (by first | exact Nat.le_of_ble_eq_true rfl | (simp at hb;first | omega | (dsimp only;omega) | (simp <;> omega)) | omega | (dsimp only;omega)) (by first | exact Nat.le_of_ble_eq_true rfl | (simp at hb;first | omega | (dsimp only;omega) | (simp <;> omega)) | omega | (dsimp only;omega)) (fun h=>(by first | rfl | cases h))) ((by show boolV (l.getD ((i:Int) - 1).toNat default).old=_;rw [show ((i:Int) - 1).toNat=i - 1 by omega]))) rfl rfl rfl rfl (pre1 rfl) rfl rfl rfl ?_
   | refine stg 31 (fun hb=>HOp.val (v':=boolV (l.getD (i - 1) default).old) (hop_load_fp ty_4 rfl (by first | exact Nat.le_of_ble_eq_true rfl | (simp at hb;first | omega | (dsimp only;omega) | (simp <;> omega)) | omega | (dsimp only;omega)) (fun h=>(by first | rfl | cases h))) ((by show boolV (l.getD ((i:Int) - 1).toNat default).old=_;rw [show ((i:Int) - 1).toNat=i - 1 by omega]))) rfl rfl rfl rfl rfl ?_
   | refine hq_g3 37 7 31 28 false true _ _ (fun hb hb2=>HOp.val (v':=boolV (l.getD (i - 1) default).old) (hop_load_fp ty_4 rfl (by first | exact Nat.le_of_ble_eq_true rfl | (simp at hb;omega) | (simp at hb2;omega) | (simp at hb hb2;first | omega | (dsimp only;omega) | (simp <;> omega)) | omega | (dsimp only;omega)) (fun h=>(by first | rfl | cases h))) ((by show boolV (l.getD ((i:Int) - 1).toNat default).old=_;rw [show ((i:Int) - 1).toNat=i - 1 by omega]))) rfl rfl rfl rfl rfl pre0 rfl rfl rfl ?_
   | refine sth 31 (fun hb=>HOp.val (v':=boolV (l.getD (i - 1) default).old) (hop_load_fp ty_4 rfl (by first | exact Nat.le_of_ble_eq_true rfl | (simp at hb;first | omega | (dsimp only;omega) | (simp <;> omega)) | omega | (dsimp only;omega)) (fun h=>(by first | rfl | cases h))) ((by show boolV (l.getD ((i:Int) - 1).toNat default).old=_;rw [show ((i:Int) - 1).toNat=i - 1 by omega]))) rfl rfl rfl rfl rfl ?_
   first
   | refine stg 31 (fun hb=>hop_not rfl) rfl rfl rfl rfl rfl ?_
   | refine hq_g3 38 7 31 28 false true _ _ (fun hb hb2=>hop_not rfl) rfl rfl rfl rfl rfl pre0 rfl rfl rfl ?_
   | refine sth 31 (fun hb=>hop_not rfl) rfl rfl rfl rfl rfl ?_
   first
   | refine hq_pg 39 (hstep_andg (gi:=4) (j:=28) _ _ rfl rfl rfl rfl) rfl rfl rfl rfl ?_
   | refine hq_pg 39 (hstep_org (gi:=4) (j:=28) _ _ rfl rfl rfl rfl) rfl rfl rfl rfl ?_
   | refine hq_pg 39 (hstep_pickg (gi:=4) (j:=28) _ _ _ _ rfl rfl rfl rfl (fun _=>.refl _) (fun _=>.refl _)) rfl rfl rfl rfl ?_
   first
   | refine hq_p 40 (hstep_and _ _ rfl rfl rfl) rfl rfl rfl ?_
   | refine hq_p 40 (hstep_or _ _ rfl rfl rfl) rfl rfl rfl ?_
   | refine hq_p 40 (hstep_ite _ _ _ rfl rfl rfl) rfl rfl rfl ?_
   | refine hq_p 40 (hstep_pick _ _ _ _ rfl rfl rfl (fun _=>.refl _) (fun _=>.refl _)) rfl rfl rfl ?_
   refine nu ?_
   refine h14 _ ?_
   refine wc (fun hc2=>?_) (fun hc2=>?_)
   ·have hr2:=hc2;(try simp only [hcs,Int.reduceToNat] at hc2)
    exfalso;refine q1 ?_;rcases hc2 with h | ⟨h1,h2⟩;(exact .inl (List.eq_nil_of_length_eq_zero om));(rcases hla with ⟨h3,_⟩ | ⟨_,h3⟩;(omega);(right;rw [h3,h2]))
   have hr2:=hc2;(try simp only [hcs,Int.reduceToNat] at hc2)
   refine hw_skip<|h13 _<|srg fun N h15=>sm ?_
   first
   | refine hq_ 42 (hop_fa fd_82_3 rfl) rfl rfl pre0 rfl rfl ?_
   | refine hq_ 42 (hop_fa_fp fd_82_3 rfl (by first | exact Nat.le_of_ble_eq_true rfl | omega | (dsimp only;omega) | (simp <;> omega))) rfl rfl pre0 rfl rfl ?_
   first
   | refine hq_ 43 (HOp.val (v':=toksV (l.getD i default).new) (hol_load ty_22 rfl (by first | exact Nat.le_of_ble_eq_true rfl | omega | (dsimp only;omega) | (simp <;> omega)) (by first | exact Nat.le_of_ble_eq_true rfl | omega | (dsimp only;omega) | (simp <;> omega)) (fun h=>(by first | rfl | cases h))) (rfl)) rfl rfl (pre1 rfl) rfl rfl ?_
   | refine hq_ 43 (HOp.val (v':=toksV (l.getD i default).new) (hop_load_fp ty_22 rfl (by first | exact Nat.le_of_ble_eq_true rfl | omega | (dsimp only;omega) | (simp <;> omega)) (fun h=>(by first | rfl | cases h))) (rfl)) rfl rfl pre0 rfl rfl ?_
   first
   | refine hm_1 44 (hol_append ei_22 (by first | exact Nat.le_of_ble_eq_true rfl | omega | (dsimp only;omega) | (simp <;> omega)) rfl (by first | exact Nat.le_of_ble_eq_true rfl | omega | (dsimp only;omega) | (simp <;> omega)) (by first | exact Nat.le_of_ble_eq_true rfl | omega | (dsimp only;omega) | (simp <;> omega)) (srl_os0 rfl (by first | exact Nat.le_of_ble_eq_true rfl | omega | (dsimp only;omega) | (simp <;> omega))) (by first | exact Nat.le_of_ble_eq_true rfl | omega | (dsimp only;omega) | (simp <;> omega)) rfl) rfl rfl (preC rfl (pre1 rfl)) rfl rfl (c':=c+3) rfl ?_
   | refine hm_1 44 (hol_append ei_22 (by first | exact Nat.le_of_ble_eq_true rfl | omega | (dsimp only;omega) | (simp <;> omega)) rfl (by first | exact Nat.le_of_ble_eq_true rfl | omega | (dsimp only;omega) | (simp <;> omega)) (by first | exact Nat.le_of_ble_eq_true rfl | omega | (dsimp only;omega) | (simp <;> omega)) (srl_os rfl (by first | exact Nat.le_of_ble_eq_true rfl | omega | (dsimp only;omega) | (simp <;> omega))) (by first | exact Nat.le_of_ble_eq_true rfl | omega | (dsimp only;omega) | (simp <;> omega)) rfl) rfl rfl (preC rfl (pre1 rfl)) rfl rfl (c':=c+3) rfl ?_
   | refine hm_1 44 (hol_append ei_22 (by first | exact Nat.le_of_ble_eq_true rfl | omega | (dsimp only;omega) | (simp <;> omega)) rfl (by first | exact Nat.le_of_ble_eq_true rfl | omega | (dsimp only;omega) | (simp <;> omega)) (by first | exact Nat.le_of_ble_eq_true rfl | omega | (dsimp only;omega) | (simp <;> omega)) (src_sl rfl) (by first | exact Nat.le_of_ble_eq_true rfl | omega | (dsimp only;omega) | (simp <;> omega)) rfl) rfl rfl (preC rfl pre0) rfl rfl (c':=c+3) rfl ?_
   | refine hm_1 44 (hol_append ei_22 (by first | exact Nat.le_of_ble_eq_true rfl | omega | (dsimp only;omega) | (simp <;> omega)) rfl (by first | exact Nat.le_of_ble_eq_true rfl | omega | (dsimp only;omega) | (simp <;> omega)) (by first | exact Nat.le_of_ble_eq_true rfl | omega | (dsimp only;omega) | (simp <;> omega)) (src_nil 12 (fun _ _=>default) rfl) (by first | exact Nat.le_of_ble_eq_true rfl | omega | (dsimp only;omega) | (simp <;> omega)) rfl) rfl rfl (preC rfl pre0) rfl rfl (c':=c+3) rfl ?_
   refine sa<|snl h15 ?_
   refine hw_exit ?_
   refine hq_then_exit<|hq_block_here<|h9 _<|hw_region<|sm ?_
   first
   | refine hq_ 16 (hop_addi rfl rfl rfl (by first | exact Nat.le_of_ble_eq_true rfl | omega | (dsimp only;omega) | (simp <;> omega)) (by first | exact Nat.le_of_ble_eq_true rfl | omega | (dsimp only;omega) | (simp <;> omega))) rfl rfl pre0 rfl rfl ?_
   | refine hq_ 16 (hop_add rfl rfl) rfl rfl pre0 rfl rfl ?_
   refine sa<|hseq_nil ?_
   exact hL6 ((i+1,e,c+2,m+(l.getD i default).new.length,o++(l.getD i default).new)) _ _ (by (try dsimp only);exact ⟨by omega,by rw [List.length_append,hm],pv1,by rw [hr',q2,q3]⟩) (by (try dsimp only);omega) (hsub_of rfl (Nat.le_refl _) tsa (HpSub.cons rfl (osub_toks (cat_toks hm rfl (fun _ _ _ _=>rfl))) HpSub.nil))
  have hr1:=hc1;(try simp only [hcs,Int.reduceToNat] at hc1)
  obtain ⟨q1,q2⟩:=mkS_old hn.symm (by simpa using hr1);injection q2 with q2 q3;injection q3 with q3 q4
  refine hw_skip<|h11 _<|hw_seq fun Nh16 h16=>srg fun N h17=>?_
  first
  | refine hq_ 45 (hop_fa fd_82_1 rfl) rfl rfl pre0 rfl rfl ?_
  | refine hq_ 45 (hop_fa_fp fd_82_1 rfl (by first | exact Nat.le_of_ble_eq_true rfl | omega | (dsimp only;omega) | (simp <;> omega))) rfl rfl pre0 rfl rfl ?_
  first
  | refine hq_ 46 (HOp.val (v':=intV ((l.getD i default).f:Int)) (hol_load ty_3 rfl (by first | exact Nat.le_of_ble_eq_true rfl | omega | (dsimp only;omega) | (simp <;> omega)) (by first | exact Nat.le_of_ble_eq_true rfl | omega | (dsimp only;omega) | (simp <;> omega)) (fun h=>(by first | rfl | cases h))) (rfl)) rfl rfl (pre1 rfl) rfl rfl ?_
  | refine hq_ 46 (HOp.val (v':=intV ((l.getD i default).f:Int)) (hop_load_fp ty_3 rfl (by first | exact Nat.le_of_ble_eq_true rfl | omega | (dsimp only;omega) | (simp <;> omega)) (fun h=>(by first | rfl | cases h))) (rfl)) rfl rfl pre0 rfl rfl ?_
  refine sm ?_
  refine s0 hli ?_
  refine sm ?_
  first
  | refine stg 49 (fun hb=>hop_fa fd_82_2 rfl) rfl rfl rfl rfl rfl ?_
  | refine sth 49 (fun hb=>hop_fa fd_82_2 rfl) rfl rfl rfl rfl rfl ?_
  | refine stg 49 (fun hb=>hop_fa_fp fd_82_2 rfl (by first | exact Nat.le_of_ble_eq_true rfl | (simp at hb;first | omega | (dsimp only;omega) | (simp <;> omega)) | omega | (dsimp only;omega))) rfl rfl rfl rfl rfl ?_
  | refine sth 49 (fun hb=>hop_fa_fp fd_82_2 rfl (by first | exact Nat.le_of_ble_eq_true rfl | (simp at hb;first | omega | (dsimp only;omega) | (simp <;> omega)) | omega | (dsimp only;omega))) rfl rfl rfl rfl rfl ?_
  first
  | refine hq_g 51 4 49 false _ (fun hb=>HOp.val (v':=intV ((l.getD i default).t:Int)) (hol_load ty_3 rfl (by first | exact Nat.le_of_ble_eq_true rfl | (simp at hb;first | omega | (dsimp only;omega) | (simp <;> omega)) | omega | (dsimp only;omega)) (by first | exact Nat.le_of_ble_eq_true rfl | (simp at hb;first | omega | (dsimp only;omega) | (simp <;> omega)) | omega | (dsimp only;omega)) (fun h=>(by first | rfl | cases h))) (rfl)) rfl rfl rfl rfl (pre1 rfl) rfl rfl rfl ?_
  | refine hq_g2 51 4 49 _ _ false _ (fun hb=>HOp.val (v':=intV ((l.getD i default).t:Int)) (hol_load ty_3 rfl (by first | exact Nat.le_of_ble_eq_true rfl | (simp at hb;first | omega | (dsimp only;omega) | (simp <;> omega)) | omega | (dsimp only;omega)) (by first | exact Nat.le_of_ble_eq_true rfl | (simp at hb;first | omega | (dsimp only;omega) | (simp <;> omega)) | omega | (dsimp only;omega)) (fun h=>(by first | rfl | cases h))) (rfl)) rfl rfl rfl rfl (pre1 rfl) rfl rfl rfl ?_
  | refine stg 49 (fun hb=>HOp.val (v':=intV ((l.getD i default).t:Int)) (hop_load_fp ty_3 rfl (by first | exact Nat.le_of_ble_eq_true rfl | (simp at hb;first | omega | (dsimp only;omega) | (simp <;> omega)) | omega | (dsimp only;omega)) (fun h=>(by first | rfl | cases h))) (rfl)) rfl rfl rfl rfl rfl ?_
  | refine sth 49 (fun hb=>HOp.val (v':=intV ((l.getD i default).t:Int)) (hop_load_fp ty_3 rfl (by first | exact Nat.le_of_ble_eq_true rfl | (simp at hb;first | omega | (dsimp only;omega) | (simp <;> omega)) | omega | (dsimp only;omega)) (fun h=>(by first | rfl | cases h))) (rfl)) rfl rfl rfl rfl rfl ?_
  first
  | refine stg 49 (fun hb=>hop_fa fd_82_1 rfl) rfl rfl rfl rfl rfl ?_
  | refine sth 49 (fun hb=>hop_fa fd_82_1 rfl) rfl rfl rfl rfl rfl ?_
  | refine stg 49 (fun hb=>hop_fa_fp fd_82_1 rfl (by first | exact Nat.le_of_ble_eq_true rfl | (simp at hb;first | omega | (dsimp only;omega) | (simp <;> omega)) | omega | (dsimp only;omega))) rfl rfl rfl rfl rfl ?_
  | refine sth 49 (fun hb=>hop_fa_fp fd_82_1 rfl (by first | exact Nat.le_of_ble_eq_true rfl | (simp at hb;first | omega | (dsimp only;omega) | (simp <;> omega)) | omega | (dsimp only;omega))) rfl rfl rfl rfl rfl ?_
  first
  | refine hq_g 53 4 49 false _ (fun hb=>HOp.val (v':=intV ((l.getD i default).f:Int)) (hol_load ty_3 rfl (by first | exact Nat.le_of_ble_eq_true rfl | (simp at hb;first | omega | (dsimp only;omega) | (simp <;> omega)) | omega | (dsimp only;omega)) (by first | exact Nat.le_of_ble_eq_true rfl | (simp at hb;first | omega | (dsimp only;omega) | (simp <;> omega)) | omega | (dsimp only;omega)) (fun h=>(by first | rfl | cases h))) (rfl)) rfl rfl rfl rfl (pre1 rfl) rfl rfl rfl ?_
  | refine hq_g2 53 4 49 _ _ false _ (fun hb=>HOp.val (v':=intV ((l.getD i default).f:Int)) (hol_load ty_3 rfl (by first | exact Nat.le_of_ble_eq_true rfl | (simp at hb;first | omega | (dsimp only;omega) | (simp <;> omega)) | omega | (dsimp only;omega)) (by first | exact Nat.le_of_ble_eq_true rfl | (simp at hb;first | omega | (dsimp only;omega) | (simp <;> omega)) | omega | (dsimp only;omega)) (fun h=>(by first | rfl | cases h))) (rfl)) rfl rfl rfl rfl (pre1 rfl) rfl rfl rfl ?_
  | refine stg 49 (fun hb=>HOp.val (v':=intV ((l.getD i default).f:Int)) (hop_load_fp ty_3 rfl (by first | exact Nat.le_of_ble_eq_true rfl | (simp at hb;first | omega | (dsimp only;omega) | (simp <;> omega)) | omega | (dsimp only;omega)) (fun h=>(by first | rfl | cases h))) (rfl)) rfl rfl rfl rfl rfl ?_
  | refine sth 49 (fun hb=>HOp.val (v':=intV ((l.getD i default).f:Int)) (hop_load_fp ty_3 rfl (by first | exact Nat.le_of_ble_eq_true rfl | (simp at hb;first | omega | (dsimp only;omega) | (simp <;> omega)) | omega | (dsimp only;omega)) (fun h=>(by first | rfl | cases h))) (rfl)) rfl rfl rfl rfl rfl ?_
  first
  | refine stg 49 (fun hb=>hop_leq rfl rfl) rfl rfl rfl rfl rfl ?_
  | refine sth 49 (fun hb=>hop_leq rfl rfl) rfl rfl rfl rfl rfl ?_
  first
  | refine hq_p 55 (hstep_and _ _ rfl rfl rfl) rfl rfl rfl ?_
  | refine hq_p 55 (hstep_or _ _ rfl rfl rfl) rfl rfl rfl ?_
  | refine hq_p 55 (hstep_ite _ _ _ rfl rfl rfl) rfl rfl rfl ?_
  | refine hq_p 55 (hstep_pick _ _ _ _ rfl rfl rfl (fun _=>.refl _) (fun _=>.refl _)) rfl rfl rfl ?_
  refine sm ?_
  first
  | refine stg 56 (fun hb=>hop_fa fd_82_2 rfl) rfl rfl rfl rfl rfl ?_
  | refine sth 56 (fun hb=>hop_fa fd_82_2 rfl) rfl rfl rfl rfl rfl ?_
  | refine stg 56 (fun hb=>hop_fa_fp fd_82_2 rfl (by first | exact Nat.le_of_ble_eq_true rfl | (simp at hb;first | omega | (dsimp only;omega) | (simp <;> omega)) | omega | (dsimp only;omega))) rfl rfl rfl rfl rfl ?_
  | refine sth 56 (fun hb=>hop_fa_fp fd_82_2 rfl (by first | exact Nat.le_of_ble_eq_true rfl | (simp at hb;first | omega | (dsimp only;omega) | (simp <;> omega)) | omega | (dsimp only;omega))) rfl rfl rfl rfl rfl ?_
  first
  | refine hq_g 58 11 56 false _ (fun hb=>HOp.val (v':=intV ((l.getD i default).t:Int)) (hol_load ty_3 rfl (by first | exact Nat.le_of_ble_eq_true rfl | (simp at hb;first | omega | (dsimp only;omega) | (simp <;> omega)) | omega | (dsimp only;omega)) (by first | exact Nat.le_of_ble_eq_true rfl | (simp at hb;first | omega | (dsimp only;omega) | (simp <;> omega)) | omega | (dsimp only;omega)) (fun h=>(by first | rfl | cases h))) (rfl)) rfl rfl rfl rfl (pre1 rfl) rfl rfl rfl ?_
  | refine hq_g2 58 11 56 _ _ false _ (fun hb=>HOp.val (v':=intV ((l.getD i default).t:Int)) (hol_load ty_3 rfl (by first | exact Nat.le_of_ble_eq_true rfl | (simp at hb;first | omega | (dsimp only;omega) | (simp <;> omega)) | omega | (dsimp only;omega)) (by first | exact Nat.le_of_ble_eq_true rfl | (simp at hb;first | omega | (dsimp only;omega) | (simp <;> omega)) | omega | (dsimp only;omega)) (fun h=>(by first | rfl | cases h))) (rfl)) rfl rfl rfl rfl (pre1 rfl) rfl rfl rfl ?_
  | refine stg 56 (fun hb=>HOp.val (v':=intV ((l.getD i default).t:Int)) (hop_load_fp ty_3 rfl (by first | exact Nat.le_of_ble_eq_true rfl | (simp at hb;first | omega | (dsimp only;omega) | (simp <;> omega)) | omega | (dsimp only;omega)) (fun h=>(by first | rfl | cases h))) (rfl)) rfl rfl rfl rfl rfl ?_
  | refine sth 56 (fun hb=>HOp.val (v':=intV ((l.getD i default).t:Int)) (hop_load_fp ty_3 rfl (by first | exact Nat.le_of_ble_eq_true rfl | (simp at hb;first | omega | (dsimp only;omega) | (simp <;> omega)) | omega | (dsimp only;omega)) (fun h=>(by first | rfl | cases h))) (rfl)) rfl rfl rfl rfl rfl ?_
  first
  | refine stg 56 (fun hb=>hop_move rfl) rfl rfl rfl rfl rfl ?_
  | refine sth 56 (fun hb=>hop_move rfl) rfl rfl rfl rfl rfl ?_
  first
  | refine stg 56 (fun hb=>hop_len_sl (T:=22) rfl (elOf_spec el_22).1 rfl) rfl rfl rfl rfl rfl ?_
  | refine sth 56 (fun hb=>hop_len_sl (T:=22) rfl (elOf_spec el_22).1 rfl) rfl rfl rfl rfl rfl ?_
  | refine stg 56 (fun hb=>hop_len_os (T:=22) rfl (elOf_spec el_22).1 rfl) rfl rfl rfl rfl rfl ?_
  | refine sth 56 (fun hb=>hop_len_os (T:=22) rfl (elOf_spec el_22).1 rfl) rfl rfl rfl rfl rfl ?_
  | refine stg 56 (fun hb=>hop_len_nil (T:=22) rfl (elOf_spec el_22).1 rfl) rfl rfl rfl rfl rfl ?_
  | refine sth 56 (fun hb=>hop_len_nil (T:=22) rfl (elOf_spec el_22).1 rfl) rfl rfl rfl rfl rfl ?_
  first
  | refine stg 56 (fun hb=>hop_gtr rfl rfl) rfl rfl rfl rfl rfl ?_
  | refine sth 56 (fun hb=>hop_gtr rfl rfl) rfl rfl rfl rfl rfl ?_
  first
  | refine hq_p 62 (hstep_and _ _ rfl rfl rfl) rfl rfl rfl ?_
  | refine hq_p 62 (hstep_or _ _ rfl rfl rfl) rfl rfl rfl ?_
  | refine hq_p 62 (hstep_ite _ _ _ rfl rfl rfl) rfl rfl rfl ?_
  | refine hq_p 62 (hstep_pick _ _ _ _ rfl rfl rfl (fun _=>.refl _) (fun _=>.refl _)) rfl rfl rfl ?_
  refine sm ?_
  first
  | refine stg 63 (fun hb=>hop_move rfl) rfl rfl rfl rfl rfl ?_
  | refine sth 63 (fun hb=>hop_move rfl) rfl rfl rfl rfl rfl ?_
  first
  | refine stg 63 (fun hb=>hop_gtr rfl rfl) rfl rfl rfl rfl rfl ?_
  | refine sth 63 (fun hb=>hop_gtr rfl rfl) rfl rfl rfl rfl rfl ?_
  first
  | refine stg 63 (fun hb=>hop_move rfl) rfl rfl rfl rfl rfl ?_
  | refine sth 63 (fun hb=>hop_move rfl) rfl rfl rfl rfl rfl ?_
  first
  | refine stg 66 (fun hb=>hop_move rfl) rfl rfl rfl rfl rfl ?_
  | refine hq_g3 67 21 66 63 false true _ _ (fun hb hb2=>hop_move rfl) rfl rfl rfl rfl rfl pre0 rfl rfl rfl ?_
  | refine sth 66 (fun hb=>hop_move rfl) rfl rfl rfl rfl rfl ?_
  first
  | refine stg 66 (fun hb=>hop_move rfl) rfl rfl rfl rfl rfl ?_
  | refine hq_g3 68 21 66 63 false true _ _ (fun hb hb2=>hop_move rfl) rfl rfl rfl rfl rfl pre0 rfl rfl rfl ?_
  | refine sth 66 (fun hb=>hop_move rfl) rfl rfl rfl rfl rfl ?_
  first
  | refine stg 66 (fun hb=>hop_subi rfl rfl rfl (by first | exact Nat.le_of_ble_eq_true rfl | (simp at hb;first | omega | (dsimp only;omega) | (simp <;> omega)) | omega | (dsimp only;omega)) (by first | exact Nat.le_of_ble_eq_true rfl | (simp at hb;first | omega | (dsimp only;omega) | (simp <;> omega)) | omega | (dsimp only;omega))) rfl rfl rfl rfl rfl ?_
  | refine hq_g3 69 21 66 63 false true _ _ (fun hb hb2=>hop_subi rfl rfl rfl (by first | exact Nat.le_of_ble_eq_true rfl | (simp at hb;omega) | (simp at hb2;omega) | (simp at hb hb2;first | omega | (dsimp only;omega) | (simp <;> omega)) | omega | (dsimp only;omega)) (by first | exact Nat.le_of_ble_eq_true rfl | (simp at hb;omega) | (simp at hb2;omega) | (simp at hb hb2;first | omega | (dsimp only;omega) | (simp <;> omega)) | omega | (dsimp only;omega))) rfl rfl rfl rfl rfl pre0 rfl rfl rfl ?_
  | refine sth 66 (fun hb=>hop_subi rfl rfl rfl (by first | exact Nat.le_of_ble_eq_true rfl | (simp at hb;first | omega | (dsimp only;omega) | (simp <;> omega)) | omega | (dsimp only;omega)) (by first | exact Nat.le_of_ble_eq_true rfl | (simp at hb;first | omega | (dsimp only;omega) | (simp <;> omega)) | omega | (dsimp only;omega))) rfl rfl rfl rfl rfl ?_
  | refine stg 66 (fun hb=>hop_sub rfl rfl) rfl rfl rfl rfl rfl ?_
  | refine hq_g3 69 21 66 63 false true _ _ (fun hb hb2=>hop_sub rfl rfl) rfl rfl rfl rfl rfl pre0 rfl rfl rfl ?_
  | refine sth 66 (fun hb=>hop_sub rfl rfl) rfl rfl rfl rfl rfl ?_
  first
  | refine stg 66 (fun hb=>hop_ia_sl el_32 rfl rfl (by first | exact Nat.le_of_ble_eq_true rfl | (simp at hb;first | omega | (dsimp only;omega) | (simp <;> omega)) | omega | (dsimp only;omega)) (by first | exact Nat.le_of_ble_eq_true rfl | (simp at hb;first | omega | (dsimp only;omega) | (simp <;> omega)) | omega | (dsimp only;omega)) (by first | exact Nat.le_of_ble_eq_true rfl | (simp at hb;first | omega | (dsimp only;omega) | (simp <;> omega)) | omega | (dsimp only;omega))) rfl rfl rfl rfl rfl ?_
  | refine hq_g3 70 21 66 63 false true _ _ (fun hb hb2=>hop_ia_sl el_32 rfl rfl (by first | exact Nat.le_of_ble_eq_true rfl | (simp at hb;omega) | (simp at hb2;omega) | (simp at hb hb2;first | omega | (dsimp only;omega) | (simp <;> omega)) | omega | (dsimp only;omega)) (by first | exact Nat.le_of_ble_eq_true rfl | (simp at hb;omega) | (simp at hb2;omega) | (simp at hb hb2;first | omega | (dsimp only;omega) | (simp <;> omega)) | omega | (dsimp only;omega)) (by first | exact Nat.le_of_ble_eq_true rfl | (simp at hb;omega) | (simp at hb2;omega) | (simp at hb hb2;first | omega | (dsimp only;omega) | (simp <;> omega)) | omega | (dsimp only;omega))) rfl rfl rfl rfl rfl pre0 rfl rfl rfl ?_
  | refine sth 66 (fun hb=>hop_ia_sl el_32 rfl rfl (by first | exact Nat.le_of_ble_eq_true rfl | (simp at hb;first | omega | (dsimp only;omega) | (simp <;> omega)) | omega | (dsimp only;omega)) (by first | exact Nat.le_of_ble_eq_true rfl | (simp at hb;first | omega | (dsimp only;omega) | (simp <;> omega)) | omega | (dsimp only;omega)) (by first | exact Nat.le_of_ble_eq_true rfl | (simp at hb;first | omega | (dsimp only;omega) | (simp <;> omega)) | omega | (dsimp only;omega))) rfl rfl rfl rfl rfl ?_
  | refine hq_g 70 21 66 true _ (fun hb=>hol_ia_os el_32 rfl rfl (by first | exact Nat.le_of_ble_eq_true rfl | (simp at hb;first | omega | (dsimp only;omega) | (simp <;> omega)) | omega | (dsimp only;omega)) (by first | exact Nat.le_of_ble_eq_true rfl | (simp at hb;first | omega | (dsimp only;omega) | (simp <;> omega)) | omega | (dsimp only;omega))) rfl rfl rfl rfl (pre1 rfl) rfl rfl rfl ?_
  | refine hq_g3 70 21 66 63 false true _ _ (fun hb hb2=>hol_ia_os el_32 rfl rfl (by first | exact Nat.le_of_ble_eq_true rfl | (simp at hb;omega) | (simp at hb2;omega) | (simp at hb hb2;first | omega | (dsimp only;omega) | (simp <;> omega)) | omega | (dsimp only;omega)) (by first | exact Nat.le_of_ble_eq_true rfl | (simp at hb;omega) | (simp at hb2;omega) | (simp at hb hb2;first | omega | (dsimp only;omega) | (simp <;> omega)) | omega | (dsimp only;omega))) rfl rfl rfl rfl rfl (pre1 rfl) rfl rfl rfl ?_
  | refine hq_g2 70 21 66 _ _ true _ (fun hb=>hol_ia_os el_32 rfl rfl (by first | exact Nat.le_of_ble_eq_true rfl | (simp at hb;first | omega | (dsimp only;omega) | (simp <;> omega)) | omega | (dsimp only;omega)) (by first | exact Nat.le_of_ble_eq_true rfl | (simp at hb;first | omega | (dsimp only;omega) | (simp <;> omega)) | omega | (dsimp only;omega))) rfl rfl rfl rfl (pre1 rfl) rfl rfl rfl ?_
  first
  | refine stg 66 (fun hb=>hop_fa fd_82_0 rfl) rfl rfl rfl rfl rfl ?_
  | refine hq_g3 71 21 66 63 false true _ _ (fun hb hb2=>hop_fa fd_82_0 rfl) rfl rfl rfl rfl rfl pre0 rfl rfl rfl ?_
  | refine sth 66 (fun hb=>hop_fa fd_82_0 rfl) rfl rfl rfl rfl rfl ?_
  | refine stg 66 (fun hb=>hop_fa_fp fd_82_0 rfl (by first | exact Nat.le_of_ble_eq_true rfl | (simp at hb;first | omega | (dsimp only;omega) | (simp <;> omega)) | omega | (dsimp only;omega))) rfl rfl rfl rfl rfl ?_
  | refine hq_g3 71 21 66 63 false true _ _ (fun hb hb2=>hop_fa_fp fd_82_0 rfl (by first | exact Nat.le_of_ble_eq_true rfl | (simp at hb;omega) | (simp at hb2;omega) | (simp at hb hb2;first | omega | (dsimp only;omega) | (simp <;> omega)) | omega | (dsimp only;omega))) rfl rfl rfl rfl rfl pre0 rfl rfl rfl ?_
  | refine sth 66 (fun hb=>hop_fa_fp fd_82_0 rfl (by first | exact Nat.le_of_ble_eq_true rfl | (simp at hb;first | omega | (dsimp only;omega) | (simp <;> omega)) | omega | (dsimp only;omega))) rfl rfl rfl rfl rfl ?_
  first
  | refine hq_g 72 21 66 true _ (fun hb=>HOp.val (v':=boolV (l.getD (i - 1) default).old) (hol_load ty_4 rfl (by first | exact Nat.le_of_ble_eq_true rfl | (simp at hb;first | omega | (dsimp only;omega) | (simp <;> omega)) | omega | (dsimp only;omega)) (by first | exact Nat.le_of_ble_eq_true rfl | (simp at hb;first | omega | (dsimp only;omega) | (simp <;> omega)) | omega | (dsimp only;omega)) (fun h=>(by first | rfl | cases h))) ((by show boolV (l.getD ((i:Int) - 1).toNat default).old=_;rw [show ((i:Int) - 1).toNat=i - 1 by omega]))) rfl rfl rfl rfl (pre1 rfl) rfl rfl rfl ?_
  | refine hq_g3 72 21 66 63 false true _ _ (fun hb hb2=>HOp.val (v':=boolV (l.getD (i - 1) default).old) (hol_load ty_4 rfl (by first | exact Nat.le_of_ble_eq_true rfl | (simp at hb;omega) | (simp at hb2;omega) | (simp at hb hb2;first | omega | (dsimp only;omega) | (simp <;> omega)) | omega | (dsimp only;omega)) (by first | exact Nat.le_of_ble_eq_true rfl | (simp at hb;omega) | (simp at hb2;omega) | (simp at hb hb2;first | omega | (dsimp only;omega) | (simp <;> omega)) | omega | (dsimp only;omega)) (fun h=>(by first | rfl | cases h))) ((by show boolV (l.getD ((i:Int) - 1).toNat default).old=_;rw [show ((i:Int) - 1).toNat=i - 1 by omega]))) rfl rfl rfl rfl rfl (pre1 rfl) rfl rfl rfl ?_
  | refine hq_g2 72 21 66 _ _ true _ (fun hb=>HOp.val (v':=boolV (l.getD (i - 1) default).old) (hol_load ty_4 rfl (by first | exact Nat.le_of_ble_eq_true rfl | (simp at hb;first | omega | (dsimp only;omega) | (simp <;> omega)) | omega | (dsimp only;omega)) (by first | exact Nat.le_of_ble_eq_true rfl | (simp at hb;first | omega | (dsimp only;omega) | (simp <;> omega)) | omega | (dsimp only;omega)) (fun h=>(by first | rfl | cases h))) ((by show boolV (l.getD ((i:Int) - 1).toNat default).old=_;rw [show ((i:Int) - 1).toNat=i - 1 by omega]))) rfl rfl rfl rfl (pre1 rfl) rfl rfl rfl ?_
  | refine stg 66 (fun hb=>HOp.val (v':=boolV (l.getD (i - 1) default).old) (hop_load_fp ty_4 rfl (by first | exact Nat.le_of_ble_eq_true rfl | (simp at hb;first | omega | (dsimp only;omega) | (simp <;> omega)) | omega | (dsimp only;omega)) (fun h=>(by first | rfl | cases h))) ((by show boolV (l.getD ((i:Int) - 1).toNat default).old=_;rw [show ((i:Int) - 1).toNat=i - 1 by omega]))) rfl rfl rfl rfl rfl ?_
  | refine hq_g3 72 21 66 63 false true _ _ (fun hb hb2=>HOp.val (v':=boolV (l.getD (i - 1) default).old) (hop_load_fp ty_4 rfl (by first | exact Nat.le_of_ble_eq_true rfl | (simp at hb;omega) | (simp at hb2;omega) | (simp at hb hb2;first | omega | (dsimp only;omega) | (simp <;> omega)) | omega | (dsimp only;omega)) (fun h=>(by first | rfl | cases h))) ((by show boolV (l.getD ((i:Int) - 1).toNat default).old=_;rw [show ((i:Int) - 1).toNat=i - 1 by omega]))) rfl rfl rfl rfl rfl pre0 rfl rfl rfl ?_
  | refine sth 66 (fun hb=>HOp.val (v':=boolV (l.getD (i - 1) default).old) (hop_load_fp ty_4 rfl (by first | exact Nat.le_of_ble_eq_true rfl | (simp at hb;first | omega | (dsimp only;omega) | (simp <;> omega)) | omega | (dsimp only;omega)) (fun h=>(by first | rfl | cases h))) ((by show boolV (l.getD ((i:Int) - 1).toNat default).old=_;rw [show ((i:Int) - 1).toNat=i - 1 by omega]))) rfl rfl rfl rfl rfl ?_
  first
  | refine hq_pg 73 (hstep_andg (gi:=18) (j:=63) _ _ rfl rfl rfl rfl) rfl rfl rfl rfl ?_
  | refine hq_pg 73 (hstep_org (gi:=18) (j:=63) _ _ rfl rfl rfl rfl) rfl rfl rfl rfl ?_
  | refine hq_pg 73 (hstep_pickg (gi:=18) (j:=63) _ _ _ _ rfl rfl rfl rfl (fun _=>.refl _) (fun _=>.refl _)) rfl rfl rfl rfl ?_
  first
  | refine stg 63 (fun hb=>hop_move rfl) rfl rfl rfl rfl rfl ?_
  | refine sth 63 (fun hb=>hop_move rfl) rfl rfl rfl rfl rfl ?_
  first
  | refine stg 74 (fun hb=>hop_fa fd_82_1 rfl) rfl rfl rfl rfl rfl ?_
  | refine hq_g3 75 29 74 63 false true _ _ (fun hb hb2=>hop_fa fd_82_1 rfl) rfl rfl rfl rfl rfl pre0 rfl rfl rfl ?_
  | refine sth 74 (fun hb=>hop_fa fd_82_1 rfl) rfl rfl rfl rfl rfl ?_
  | refine stg 74 (fun hb=>hop_fa_fp fd_82_1 rfl (by first | exact Nat.le_of_ble_eq_true rfl | (simp at hb;first | omega | (dsimp only;omega) | (simp <;> omega)) | omega | (dsimp only;omega))) rfl rfl rfl rfl rfl ?_
  | refine hq_g3 75 29 74 63 false true _ _ (fun hb hb2=>hop_fa_fp fd_82_1 rfl (by first | exact Nat.le_of_ble_eq_true rfl | (simp at hb;omega) | (simp at hb2;omega) | (simp at hb hb2;first | omega | (dsimp only;omega) | (simp <;> omega)) | omega | (dsimp only;omega))) rfl rfl rfl rfl rfl pre0 rfl rfl rfl ?_
  | refine sth 74 (fun hb=>hop_fa_fp fd_82_1 rfl (by first | exact Nat.le_of_ble_eq_true rfl | (simp at hb;first | omega | (dsimp only;omega) | (simp <;> omega)) | omega | (dsimp only;omega))) rfl rfl rfl rfl rfl ?_
  first
  | refine hq_g 76 29 74 true _ (fun hb=>HOp.val (v':=intV ((l.getD i default).f:Int)) (hol_load ty_3 rfl (by first | exact Nat.le_of_ble_eq_true rfl | (simp at hb;first | omega | (dsimp only;omega) | (simp <;> omega)) | omega | (dsimp only;omega)) (by first | exact Nat.le_of_ble_eq_true rfl | (simp at hb;first | omega | (dsimp only;omega) | (simp <;> omega)) | omega | (dsimp only;omega)) (fun h=>(by first | rfl | cases h))) (rfl)) rfl rfl rfl rfl (pre1 rfl) rfl rfl rfl ?_
  | refine hq_g3 76 29 74 63 false true _ _ (fun hb hb2=>HOp.val (v':=intV ((l.getD i default).f:Int)) (hol_load ty_3 rfl (by first | exact Nat.le_of_ble_eq_true rfl | (simp at hb;omega) | (simp at hb2;omega) | (simp at hb hb2;first | omega | (dsimp only;omega) | (simp <;> omega)) | omega | (dsimp only;omega)) (by first | exact Nat.le_of_ble_eq_true rfl | (simp at hb;omega) | (simp at hb2;omega) | (simp at hb hb2;first | omega | (dsimp only;omega) | (simp <;> omega)) | omega | (dsimp only;omega)) (fun h=>(by first | rfl | cases h))) (rfl)) rfl rfl rfl rfl rfl (pre1 rfl) rfl rfl rfl ?_
  | refine hq_g2 76 29 74 _ _ true _ (fun hb=>HOp.val (v':=intV ((l.getD i default).f:Int)) (hol_load ty_3 rfl (by first | exact Nat.le_of_ble_eq_true rfl | (simp at hb;first | omega | (dsimp only;omega) | (simp <;> omega)) | omega | (dsimp only;omega)) (by first | exact Nat.le_of_ble_eq_true rfl | (simp at hb;first | omega | (dsimp only;omega) | (simp <;> omega)) | omega | (dsimp only;omega)) (fun h=>(by first | rfl | cases h))) (rfl)) rfl rfl rfl rfl (pre1 rfl) rfl rfl rfl ?_
  | refine stg 74 (fun hb=>HOp.val (v':=intV ((l.getD i default).f:Int)) (hop_load_fp ty_3 rfl (by first | exact Nat.le_of_ble_eq_true rfl | (simp at hb;first | omega | (dsimp only;omega) | (simp <;> omega)) | omega | (dsimp only;omega)) (fun h=>(by first | rfl | cases h))) (rfl)) rfl rfl rfl rfl rfl ?_
  | refine hq_g3 76 29 74 63 false true _ _ (fun hb hb2=>HOp.val (v':=intV ((l.getD i default).f:Int)) (hop_load_fp ty_3 rfl (by first | exact Nat.le_of_ble_eq_true rfl | (simp at hb;omega) | (simp at hb2;omega) | (simp at hb hb2;first | omega | (dsimp only;omega) | (simp <;> omega)) | omega | (dsimp only;omega)) (fun h=>(by first | rfl | cases h))) (rfl)) rfl rfl rfl rfl rfl pre0 rfl rfl rfl ?_
  | refine sth 74 (fun hb=>HOp.val (v':=intV ((l.getD i default).f:Int)) (hop_load_fp ty_3 rfl (by first | exact Nat.le_of_ble_eq_true rfl | (simp at hb;first | omega | (dsimp only;omega) | (simp <;> omega)) | omega | (dsimp only;omega)) (fun h=>(by first | rfl | cases h))) (rfl)) rfl rfl rfl rfl rfl ?_
  first
  | refine stg 74 (fun hb=>hop_move rfl) rfl rfl rfl rfl rfl ?_
  | refine hq_g3 77 29 74 63 false true _ _ (fun hb hb2=>hop_move rfl) rfl rfl rfl rfl rfl pre0 rfl rfl rfl ?_
  | refine sth 74 (fun hb=>hop_move rfl) rfl rfl rfl rfl rfl ?_
  first
  | refine stg 74 (fun hb=>hop_eql rfl rfl) rfl rfl rfl rfl rfl ?_
  | refine hq_g3 78 29 74 63 false true _ _ (fun hb hb2=>hop_eql rfl rfl) rfl rfl rfl rfl rfl pre0 rfl rfl rfl ?_
  | refine sth 74 (fun hb=>hop_eql rfl rfl) rfl rfl rfl rfl rfl ?_
  first
  | refine hq_pg 79 (hstep_andg (gi:=18) (j:=63) _ _ rfl rfl rfl rfl) rfl rfl rfl rfl ?_
  | refine hq_pg 79 (hstep_org (gi:=18) (j:=63) _ _ rfl rfl rfl rfl) rfl rfl rfl rfl ?_
  | refine hq_pg 79 (hstep_pickg (gi:=18) (j:=63) _ _ _ _ rfl rfl rfl rfl (fun _=>.refl _) (fun _=>.refl _)) rfl rfl rfl rfl ?_
  first
  | refine hq_p 80 (hstep_and _ _ rfl rfl rfl) rfl rfl rfl ?_
  | refine hq_p 80 (hstep_or _ _ rfl rfl rfl) rfl rfl rfl ?_
  | refine hq_p 80 (hstep_ite _ _ _ rfl rfl rfl) rfl rfl rfl ?_
  | refine hq_p 80 (hstep_pick _ _ _ _ rfl rfl rfl (fun _=>.refl _) (fun _=>.refl _)) rfl rfl rfl ?_
  refine nu ?_
  refine h17 _ ?_
  refine wc (fun hc3=>?_) (fun hc3=>?_)
  ·have hr3:=hc3;(try simp only [hcs,Int.reduceToNat] at hc3)
   exfalso;refine q1 ?_;rcases hc3 with ((h | h) | h) | ⟨⟨h,h2⟩,h3⟩;(exact .inl om);(exact .inr (.inl om));(exact .inr (.inr (.inl om)));(refine .inr (.inr (.inr ⟨?_,by omega⟩));rcases hla with ⟨h4,_⟩ | ⟨_,h4⟩;(omega);(rw [h4,h2]))
  have hr3:=hc3;(try simp only [hcs,Int.reduceToNat] at hc3)
  refine hw_skip<|h16 _<|srg fun N h18=>?_
  first
  | refine hq_ 81 (hop_fa fd_82_2 rfl) rfl rfl pre0 rfl rfl ?_
  | refine hq_ 81 (hop_fa_fp fd_82_2 rfl (by first | exact Nat.le_of_ble_eq_true rfl | omega | (dsimp only;omega) | (simp <;> omega))) rfl rfl pre0 rfl rfl ?_
  first
  | refine hq_ 82 (HOp.val (v':=intV ((l.getD i default).t:Int)) (hol_load ty_3 rfl (by first | exact Nat.le_of_ble_eq_true rfl | omega | (dsimp only;omega) | (simp <;> omega)) (by first | exact Nat.le_of_ble_eq_true rfl | omega | (dsimp only;omega) | (simp <;> omega)) (fun h=>(by first | rfl | cases h))) (rfl)) rfl rfl (pre1 rfl) rfl rfl ?_
  | refine hq_ 82 (HOp.val (v':=intV ((l.getD i default).t:Int)) (hop_load_fp ty_3 rfl (by first | exact Nat.le_of_ble_eq_true rfl | omega | (dsimp only;omega) | (simp <;> omega)) (fun h=>(by first | rfl | cases h))) (rfl)) rfl rfl pre0 rfl rfl ?_
  refine sa<|snl h18<|hw_region<|sm<|sm ?_
  first
  | refine hq_ 85 (hop_fa fd_82_1 rfl) rfl rfl pre0 rfl rfl ?_
  | refine hq_ 85 (hop_fa_fp fd_82_1 rfl (by first | exact Nat.le_of_ble_eq_true rfl | omega | (dsimp only;omega) | (simp <;> omega))) rfl rfl pre0 rfl rfl ?_
  first
  | refine hq_ 86 (HOp.val (v':=intV ((l.getD i default).f:Int)) (hol_load ty_3 rfl (by first | exact Nat.le_of_ble_eq_true rfl | omega | (dsimp only;omega) | (simp <;> omega)) (by first | exact Nat.le_of_ble_eq_true rfl | omega | (dsimp only;omega) | (simp <;> omega)) (fun h=>(by first | rfl | cases h))) (rfl)) rfl rfl (pre1 rfl) rfl rfl ?_
  | refine hq_ 86 (HOp.val (v':=intV ((l.getD i default).f:Int)) (hop_load_fp ty_3 rfl (by first | exact Nat.le_of_ble_eq_true rfl | omega | (dsimp only;omega) | (simp <;> omega)) (fun h=>(by first | rfl | cases h))) (rfl)) rfl rfl pre0 rfl rfl ?_
  first
  | refine hq_ 87 (hop_fa fd_82_2 rfl) rfl rfl pre0 rfl rfl ?_
  | refine hq_ 87 (hop_fa_fp fd_82_2 rfl (by first | exact Nat.le_of_ble_eq_true rfl | omega | (dsimp only;omega) | (simp <;> omega))) rfl rfl pre0 rfl rfl ?_
  first
  | refine hq_ 88 (HOp.val (v':=intV ((l.getD i default).t:Int)) (hol_load ty_3 rfl (by first | exact Nat.le_of_ble_eq_true rfl | omega | (dsimp only;omega) | (simp <;> omega)) (by first | exact Nat.le_of_ble_eq_true rfl | omega | (dsimp only;omega) | (simp <;> omega)) (fun h=>(by first | rfl | cases h))) (rfl)) rfl rfl (pre1 rfl) rfl rfl ?_
  | refine hq_ 88 (HOp.val (v':=intV ((l.getD i default).t:Int)) (hop_load_fp ty_3 rfl (by first | exact Nat.le_of_ble_eq_true rfl | omega | (dsimp only;omega) | (simp <;> omega)) (fun h=>(by first | rfl | cases h))) (rfl)) rfl rfl pre0 rfl rfl ?_
  first
  | refine hq_ 89 (hop_cut_sl el_22 rfl (.inr ⟨_,_,rfl,rfl⟩) (.inr ⟨_,_,rfl,rfl⟩) (by first | exact Nat.le_of_ble_eq_true rfl | omega | (dsimp only;omega) | (simp <;> omega)) (by first | exact Nat.le_of_ble_eq_true rfl | omega | (dsimp only;omega) | (simp <;> omega)) (by first | exact Nat.le_of_ble_eq_true rfl | omega | (dsimp only;omega) | (simp <;> omega))) rfl rfl pre0 rfl rfl ?_
  | refine hq_ 89 (hol_cut_os el_22 rfl (.inr ⟨_,_,rfl,rfl⟩) (.inr ⟨_,_,rfl,rfl⟩) (by first | exact Nat.le_of_ble_eq_true rfl | omega | (dsimp only;omega) | (simp <;> omega)) (by first | exact Nat.le_of_ble_eq_true rfl | omega | (dsimp only;omega) | (simp <;> omega)) (by first | exact Nat.le_of_ble_eq_true rfl | omega | (dsimp only;omega) | (simp <;> omega))) rfl rfl (pre1 rfl) rfl rfl ?_
  first
  | refine hm_1 90 (hol_append ei_22 (by first | exact Nat.le_of_ble_eq_true rfl | omega | (dsimp only;omega) | (simp <;> omega)) rfl (by first | exact Nat.le_of_ble_eq_true rfl | omega | (dsimp only;omega) | (simp <;> omega)) (by first | exact Nat.le_of_ble_eq_true rfl | omega | (dsimp only;omega) | (simp <;> omega)) (srl_os0 rfl (by first | exact Nat.le_of_ble_eq_true rfl | omega | (dsimp only;omega) | (simp <;> omega))) (by first | exact Nat.le_of_ble_eq_true rfl | omega | (dsimp only;omega) | (simp <;> omega)) rfl) rfl rfl (preC rfl (pre1 rfl)) rfl rfl (c':=c+3) rfl ?_
  | refine hm_1 90 (hol_append ei_22 (by first | exact Nat.le_of_ble_eq_true rfl | omega | (dsimp only;omega) | (simp <;> omega)) rfl (by first | exact Nat.le_of_ble_eq_true rfl | omega | (dsimp only;omega) | (simp <;> omega)) (by first | exact Nat.le_of_ble_eq_true rfl | omega | (dsimp only;omega) | (simp <;> omega)) (srl_os rfl (by first | exact Nat.le_of_ble_eq_true rfl | omega | (dsimp only;omega) | (simp <;> omega))) (by first | exact Nat.le_of_ble_eq_true rfl | omega | (dsimp only;omega) | (simp <;> omega)) rfl) rfl rfl (preC rfl (pre1 rfl)) rfl rfl (c':=c+3) rfl ?_
  | refine hm_1 90 (hol_append ei_22 (by first | exact Nat.le_of_ble_eq_true rfl | omega | (dsimp only;omega) | (simp <;> omega)) rfl (by first | exact Nat.le_of_ble_eq_true rfl | omega | (dsimp only;omega) | (simp <;> omega)) (by first | exact Nat.le_of_ble_eq_true rfl | omega | (dsimp only;omega) | (simp <;> omega)) (src_sl rfl) (by first | exact Nat.le_of_ble_eq_true rfl | omega | (dsimp only;omega) | (simp <;> omega)) rfl) rfl rfl (preC rfl pre0) rfl rfl (c':=c+3) rfl ?_
  | refine hm_1 90 (hol_append ei_22 (by first | exact Nat.le_of_ble_eq_true rfl | omega | (dsimp only;omega) | (simp <;> omega)) rfl (by first | exact Nat.le_of_ble_eq_true rfl | omega | (dsimp only;omega) | (simp <;> omega)) (by first | exact Nat.le_of_ble_eq_true rfl | omega | (dsimp only;omega) | (simp <;> omega)) (src_nil 12 (fun _ _=>default) rfl) (by first | exact Nat.le_of_ble_eq_true rfl | omega | (dsimp only;omega) | (simp <;> omega)) rfl) rfl rfl (preC rfl pre0) rfl rfl (c':=c+3) rfl ?_
  refine sa<|hseq_nil<|hq_block<|h9 _<|hw_region<|sm ?_
  first
  | refine hq_ 16 (hop_addi rfl rfl rfl (by first | exact Nat.le_of_ble_eq_true rfl | omega | (dsimp only;omega) | (simp <;> omega)) (by first | exact Nat.le_of_ble_eq_true rfl | omega | (dsimp only;omega) | (simp <;> omega))) rfl rfl pre0 rfl rfl ?_
  | refine hq_ 16 (hop_add rfl rfl) rfl rfl pre0 rfl rfl ?_
  refine sa<|hseq_nil ?_
  exact hL6 ((i+1,(l.getD i default).t,c+2,m+(((l.getD i default).t:Int) - (l.getD i default).f).toNat,o++(a.take (l.getD i default).t).drop (l.getD i default).f)) _ _ (by (try dsimp only);exact ⟨by omega,by rw [List.length_append,hm,List.length_drop,List.length_take];omega,pv1,by rw [hr',q2,q3]⟩) (by (try dsimp only);omega) (hsub_of rfl (Nat.le_refl _) tsa (HpSub.cons rfl (osub_toks (cat_toks hm (by rw [List.length_drop,List.length_take];omega) (fun j z hj hz=>by rw [cut_get om];rfl))) HpSub.nil))
 have hr0:=hc0;(try simp only [hcs,Int.reduceToNat] at hc0)
 have hie:i=l.length:=om;have hob:o=b:=(by rw [hie,List.take_length,hmk] at hmi;injection hmi with hmi;injection hmi with _ hmi;injection hmi with hmi _;exact hmi.symm)
 refine hw_exit ?_
 refine hq_then_exit<|hq_then_exit<|hq_block_here<|h4 _<|srg fun N h19=>sm<|sm ?_
 refine hm_ 93 (hop_call (xs:=[_,_]) [(9006,_)] (same13_h o b (by subst hob;omega) om) ⟨rfl,⟨rfl,trivial⟩⟩ ⟨(fz_toksO (.head _) (Nat.le_refl _) hm.symm (fun i j hi hj=>rfl)),⟨(Fz.eq rfl),trivial⟩⟩ rfl) rfl rfl (preC rfl pre0) rfl rfl (c':=c+1) rfl ?_
 refine sa<|snl h19<|hw_ret ?_
 refine hq_ret1 rfl (rval_tmp rfl) [] rfl pre0 ?_
 rw [decide_eq_true hob];exact .imm _
theorem sameT_h (l m:List Tok) (hl:l.length≤1000000) (hm:m.length≤1000000):HPure Try.prog 32 [toksV l,toksV m] (boolV (decide (l=m))):=by
 refine ⟨⟨_,_,Try.func32,rfl,by kernel_rfl⟩,fun w F vs hF hr hw=>?_⟩
 obtain ⟨u,v,rfl,h1,h2⟩:=rep2 hr
 obtain ⟨A1,c1,rfl,_,_,s1⟩:=toks_of h1
 obtain ⟨A2,c2,rfl,_,_,s2⟩:=toks_of h2
 refine (Same_any A1 A2 c1 c2 w.heap.size w.heap.size l m w s1 s2 (by omega) (by omega)).mono ?_
 rintro e w' ⟨rfl,n,rfl⟩
 exact pure_imm hF below_drews
theorem cloneT_h (l:List Tok) (hl:l.length≤1000000):HPure Try.prog 33 [toksV l] (toksV l):=by
 refine ⟨⟨_,_,Try.func33,rfl,by kernel_rfl⟩,fun w F vs hF hr hw=>?_⟩
 obtain ⟨v,rfl,hv⟩:=rep1 hr
 obtain ⟨A,c,rfl,hc,hm,hs⟩:=toks_of hv
 refine (Clone_tok A _ c _ l w rfl hs (Nat.le_refl _) (by omega)).mono fun en w' hg=>?_
 exact gives_pure hF tokF tokF_imm tok_one tok0 hg
theorem same25s_h (a b:St) (l:a.sl.length≤20000∧a.sets.length≤20000) (m:b.sl.length≤20000∧b.sets.length≤20000):HPure Try.prog 10 [stV a,stV b] (boolV (decide (a=b))):=by
 refine ⟨⟨_,_,Try.func10,rfl,by kernel_rfl⟩,fun w F vs hF hr hw=>?_⟩
 obtain ⟨u,v,rfl,hu,hv⟩:=rep2 hr
 obtain ⟨x,rfl,rfl,hx⟩:=stp_of hu
 obtain ⟨y,rfl,rfl,hy⟩:=stp_of hv
 refine (Same25_any x y _ _ w hx hy (Nat.le_refl _) (Nat.le_refl _) (by rw [←hx.1];omega) (by rw [←hy.1];omega) (by rw [←hx.2.1];omega) (by rw [←hy.2.1];omega)).mono ?_
 rintro e w' ⟨rfl,hb⟩
 exact pure_imm hF hb
def bkF (a b:List Tok) (f:Nat):Nat→Nat→Nat
 | 0,n=>n
 | k+1,n=>if f+n < a.length∧f+n < b.length∧a.getD (a.length - 1 - n) tok0=b.getD (b.length - 1 - n) tok0 then bkF a b f k (n+1) else n
def bk (a b:List Tok) (f n:Nat):Nat:=bkF a b f (a.length - n) n
theorem bk_yes {a b:List Tok} {f n:Nat} (h:f+n < a.length∧f+n < b.length∧a.getD (a.length - 1 - n) tok0=b.getD (b.length - 1 - n) tok0):bk a b f n=bk a b f (n+1):=by
 unfold bk
 rw [show a.length - n=(a.length - (n+1))+1 by omega,bkF,if_pos h]
theorem bk_no {a b:List Tok} {f n:Nat} (h:¬ (f+n < a.length∧f+n < b.length∧a.getD (a.length - 1 - n) tok0=b.getD (b.length - 1 - n) tok0)):bk a b f n=n:=by
 unfold bk
 cases a.length - n with
 | zero=>rfl
 | succ k=>rw [bkF,if_neg h]
theorem bkF_le (a b:List Tok) (f:Nat):∀ k n,(f+n≤a.length∧f+n≤b.length)→f+bkF a b f k n≤a.length∧f+bkF a b f k n≤b.length
  | 0,n,h=>h
  | k + 1, n, h => by
    unfold bkF;split
    · rename_i h';exact bkF_le a b f k (n+1) ⟨by omega,by omega⟩
    · exact h
theorem getD_drop {a:List Tok} (f i:Nat):(a.drop f).getD i tok0=a.getD (f+i) tok0:=by
 rw [List.getD_eq_getElem?_getD,List.getD_eq_getElem?_getD,List.getElem?_drop]
theorem bkF_drop (a b:List Tok) (f:Nat):∀ k n,bkF (a.drop f) (b.drop f) 0 k n=bkF a b f k n
  | 0,n=>rfl
  | k + 1, n => by
    unfold bkF
    rw [bkF_drop a b f k (n+1),List.length_drop,List.length_drop,getD_drop,getD_drop]
    by_cases h:f+n < a.length∧f+n < b.length
    · rw [show f+(a.length - f - 1 - n)=a.length - 1 - n by omega,show f+(b.length - f - 1 - n)=b.length - 1 - n by omega]
      congr 1
      apply propext
      constructor
      · intro h';exact ⟨h.1,h.2,h'.2.2⟩
      · intro h';exact ⟨by omega,by omega,h'.2.2⟩
    · rw [if_neg (by omega),if_neg (by omega)]
theorem bkF_more (a b:List Tok) (f:Nat):∀ k n,a.length≤f+n+k→bkF a b f (k+1) n=bkF a b f k n
  | 0,n,h=>by unfold bkF;rw [if_neg (by omega)]
  | k + 1, n, h => by
    rw [bkF,bkF_more a b f k (n+1) (by omega)]
    rfl
theorem bkF_add (a b:List Tok) (f k n:Nat) (h:a.length≤f+n+k):∀ j,bkF a b f (k+j) n=bkF a b f k n
 | 0=>rfl
 | j+1=>by rw [show k+(j+1)=(k+j)+1 by omega,bkF_more a b f (k+j) n (by omega),bkF_add a b f k n h j]
theorem bk_drop (a b:List Tok) (f:Nat):bk (a.drop f) (b.drop f) 0 0=bk a b f 0:=by
 unfold bk
 rw [bkF_drop,List.length_drop]
 by_cases h:f≤a.length
 ·have:=bkF_add a b f (a.length - f - 0) 0 (by omega) f
  rw [show a.length - f - 0+f=a.length - 0 by omega] at this
  exact this.symm
 ·have:=bkF_add a b f 0 0 (by omega) a.length
  rw [show a.length - f - 0=0 by omega,Nat.sub_zero]
  rw [Nat.zero_add] at this
  exact this.symm
def froV (a b:List Tok):Nat:=sld (samV a b) a.length 0 0
def oneV (a b:List Tok):St:=⟨1,froV a b,(a.length - bk a b (froV a b) 0:Nat),0,0,0,0,0,(b.take (b.length - bk a b (froV a b) 0)).drop (froV a b),[]⟩
theorem slid_dia {a b:List Tok}:∀ n x,x≤a.length→x≤b.length→slid (samV a b) n x x≤a.length∧slid (samV a b) n x x≤b.length
  | 0,x,h1,h2=>⟨h1,h2⟩
  | n + 1, x, h1, h2 => by
    unfold slid;split
    · rename_i h;have:=samV_lt h;exact slid_dia n (x+1) (by omega) (by omega)
    · exact ⟨h1,h2⟩
theorem fro_le (a b:List Tok):froV a b≤a.length∧froV a b≤b.length:=slid_dia _ 0 (Nat.zero_le _) (Nat.zero_le _)
theorem front_h (a b:List Tok) (ha:a.length≤1000) (hb:b.length≤1000):HPure Try.prog 34 [toksV a,toksV b] (intV (froV a b:Int)):=by
 refine hpure_of Try.func34 rfl kr _ _ _ rfl 30 rfl rfl (fun w F=>?_)
 refine srg fun N h1=>sa<|snl h1<|srg fun N h2=>sa<|snl h2<|hw_seq fun Nh3 h3=>hw_block ?_
 refine hw_loopc (α:=Nat) (fun x c=>⟨30,[(0,.v (toksV a)),(1,.v (toksV b)),(5,.v (intV (x:Int)))],[],c⟩) (fun x=>x≤a.length∧x≤b.length∧sld (samV a b) a.length x x=froV a b) (fun x=>a.length - x) (0) (by exact ⟨Nat.zero_le _,Nat.zero_le _,rfl⟩) (hsub_of rfl (Nat.le_refl _) tsa HpSub.nil) (fun i c hx NhL4 hL4=>?_)
 (try dsimp only at hx hL4 ⊢)
 obtain ⟨hi,hi2,hs⟩:=hx
 refine hw_seq fun Nh5 h5=>hw_seq fun Nh6 h6=>hd_start ?_
 refine dm 1 ?_
 refine dm 2 ?_
 first
 | refine hd_q 8 (hop_len_sl (T:=22) rfl (elOf_spec el_22).1 rfl) rfl rfl pre0 rfl rfl (k':=3) rfl ?_
 | refine hd_q 8 (hop_len_os (T:=22) rfl (elOf_spec el_22).1 rfl) rfl rfl pre0 rfl rfl (k':=3) rfl ?_
 | refine hd_q 8 (hop_len_nil (T:=22) rfl (elOf_spec el_22).1 rfl) rfl rfl pre0 rfl rfl (k':=3) rfl ?_
 refine d0 4 hli ?_
 refine dm 5 ?_
 refine hd_g 11 4 10 true _ (fun hb=>hop_move rfl) rfl rfl rfl rfl pre0 rfl rfl rfl (k':=6) rfl ?_
 refine hd_g 12 4 10 true _ (fun hb=>hop_move rfl) rfl rfl rfl rfl pre0 rfl rfl rfl (k':=7) rfl ?_
 first
 | refine hd_g 13 4 10 true _ (fun hb=>hop_len_sl (T:=22) rfl (elOf_spec el_22).1 rfl) rfl rfl rfl rfl pre0 rfl rfl rfl (k':=8) rfl ?_
 | refine hd_g 13 4 10 true _ (fun hb=>hop_len_os (T:=22) rfl (elOf_spec el_22).1 rfl) rfl rfl rfl rfl pre0 rfl rfl rfl (k':=8) rfl ?_
 | refine hd_g 13 4 10 true _ (fun hb=>hop_len_nil (T:=22) rfl (elOf_spec el_22).1 rfl) rfl rfl rfl rfl pre0 rfl rfl rfl (k':=8) rfl ?_
 refine hd_g 14 4 10 true _ (fun hb=>hop_lss rfl rfl) rfl rfl rfl rfl pre0 rfl rfl rfl (k':=9) rfl ?_
 first
 | refine hd_p 15 (hstep_and _ _ rfl rfl rfl) rfl rfl rfl (k':=10) rfl ?_
 | refine hd_p 15 (hstep_or _ _ rfl rfl rfl) rfl rfl rfl (k':=10) rfl ?_
 | refine hd_p 15 (hstep_pick _ _ _ _ rfl rfl rfl (fun _=>.refl _) (fun _=>.refl _)) rfl rfl rfl (k':=10) rfl ?_
 refine dm 11 ?_
 refine hd_g 17 10 16 true _ (fun hb=>hop_move rfl) rfl rfl rfl rfl pre0 rfl rfl rfl (k':=12) rfl ?_
 refine hd_g 18 10 16 true _ (fun hb=>hop_move rfl) rfl rfl rfl rfl pre0 rfl rfl rfl (k':=13) rfl ?_
 first
 | refine hd_g 19 10 16 true _ (fun hb=>hop_ia_sl el_22 rfl rfl (by first | exact Nat.le_of_ble_eq_true rfl | (simp at hb;first | omega | (dsimp only;omega) | (simp <;> omega)) | omega | (dsimp only;omega)) (by first | exact Nat.le_of_ble_eq_true rfl | (simp at hb;first | omega | (dsimp only;omega) | (simp <;> omega)) | omega | (dsimp only;omega)) (by first | exact Nat.le_of_ble_eq_true rfl | (simp at hb;first | omega | (dsimp only;omega) | (simp <;> omega)) | omega | (dsimp only;omega))) rfl rfl rfl rfl pre0 rfl rfl rfl (k':=14) rfl ?_
 | refine hd_g 19 10 16 true _ (fun hb=>hol_ia_os el_22 rfl rfl (by first | exact Nat.le_of_ble_eq_true rfl | (simp at hb;first | omega | (dsimp only;omega) | (simp <;> omega)) | omega | (dsimp only;omega)) (by first | exact Nat.le_of_ble_eq_true rfl | (simp at hb;first | omega | (dsimp only;omega) | (simp <;> omega)) | omega | (dsimp only;omega))) rfl rfl rfl rfl (pre1 rfl) rfl rfl rfl (k':=14) rfl ?_
 first
 | refine hd_g 20 10 16 true _ (fun hb=>hol_load ty_71 rfl (by first | exact Nat.le_of_ble_eq_true rfl | (simp at hb;first | omega | (dsimp only;omega) | (simp <;> omega)) | omega | (dsimp only;omega)) (by first | exact Nat.le_of_ble_eq_true rfl | (simp at hb;first | omega | (dsimp only;omega) | (simp <;> omega)) | omega | (dsimp only;omega)) (fun h=>(by first | rfl | cases h))) rfl rfl rfl rfl (pre1 rfl) rfl rfl rfl (k':=15) rfl ?_
 | refine hd_g 20 10 16 true _ (fun hb=>hop_load_fp ty_71 rfl (by first | exact Nat.le_of_ble_eq_true rfl | (simp at hb;first | omega | (dsimp only;omega) | (simp <;> omega)) | omega | (dsimp only;omega)) (fun h=>(by first | rfl | cases h))) rfl rfl rfl rfl pre0 rfl rfl rfl (k':=15) rfl ?_
 refine hd_g 21 10 16 true _ (fun hb=>hop_move rfl) rfl rfl rfl rfl pre0 rfl rfl rfl (k':=16) rfl ?_
 refine hd_g 22 10 16 true _ (fun hb=>hop_move rfl) rfl rfl rfl rfl pre0 rfl rfl rfl (k':=17) rfl ?_
 first
 | refine hd_g 23 10 16 true _ (fun hb=>hop_ia_sl el_22 rfl rfl (by first | exact Nat.le_of_ble_eq_true rfl | (simp at hb;first | omega | (dsimp only;omega) | (simp <;> omega)) | omega | (dsimp only;omega)) (by first | exact Nat.le_of_ble_eq_true rfl | (simp at hb;first | omega | (dsimp only;omega) | (simp <;> omega)) | omega | (dsimp only;omega)) (by first | exact Nat.le_of_ble_eq_true rfl | (simp at hb;first | omega | (dsimp only;omega) | (simp <;> omega)) | omega | (dsimp only;omega))) rfl rfl rfl rfl pre0 rfl rfl rfl (k':=18) rfl ?_
 | refine hd_g 23 10 16 true _ (fun hb=>hol_ia_os el_22 rfl rfl (by first | exact Nat.le_of_ble_eq_true rfl | (simp at hb;first | omega | (dsimp only;omega) | (simp <;> omega)) | omega | (dsimp only;omega)) (by first | exact Nat.le_of_ble_eq_true rfl | (simp at hb;first | omega | (dsimp only;omega) | (simp <;> omega)) | omega | (dsimp only;omega))) rfl rfl rfl rfl (pre1 rfl) rfl rfl rfl (k':=18) rfl ?_
 first
 | refine hd_g 24 10 16 true _ (fun hb=>hol_load ty_71 rfl (by first | exact Nat.le_of_ble_eq_true rfl | (simp at hb;first | omega | (dsimp only;omega) | (simp <;> omega)) | omega | (dsimp only;omega)) (by first | exact Nat.le_of_ble_eq_true rfl | (simp at hb;first | omega | (dsimp only;omega) | (simp <;> omega)) | omega | (dsimp only;omega)) (fun h=>(by first | rfl | cases h))) rfl rfl rfl rfl (pre1 rfl) rfl rfl rfl (k':=19) rfl ?_
 | refine hd_g 24 10 16 true _ (fun hb=>hop_load_fp ty_71 rfl (by first | exact Nat.le_of_ble_eq_true rfl | (simp at hb;first | omega | (dsimp only;omega) | (simp <;> omega)) | omega | (dsimp only;omega)) (fun h=>(by first | rfl | cases h))) rfl rfl rfl rfl pre0 rfl rfl rfl (k':=19) rfl ?_
 refine hd_g 25 10 16 true _ (fun hb=>hop_eql_tok _ _ rfl rfl rfl (fun _ _=>rfl) (fun _ _=>rfl)) rfl rfl rfl rfl pre0 rfl rfl rfl (k':=20) rfl ?_
 first
 | refine hd_p 26 (hstep_and _ _ rfl rfl rfl) rfl rfl rfl (k':=21) rfl ?_
 | refine hd_p 26 (hstep_or _ _ rfl rfl rfl) rfl rfl rfl (k':=21) rfl ?_
 | refine hd_p 26 (hstep_pick _ _ _ _ rfl rfl rfl (fun _=>.refl _) (fun _=>.refl _)) rfl rfl rfl (k':=21) rfl ?_
 refine hd_nil kr kr (c':=c+21) rfl ?_
 refine h6 _ ?_
 refine wc (fun hc0=>?_) (fun hc0=>?_)
 ·have hr0:=hc0;(try simp only [hcs,Int.reduceToNat] at hc0)
  have hs1:samV a b i i=true:=samV_iff.2 ⟨by omega,by omega,hc0.2⟩;have hlt:=samV_lt hs1
  refine hw_skip<|h5 _<|hw_block<|hw_region<|sm ?_
  first
  | refine hq_ 28 (hop_addi rfl rfl rfl (by first | exact Nat.le_of_ble_eq_true rfl | omega | (dsimp only;omega) | (simp <;> omega)) (by first | exact Nat.le_of_ble_eq_true rfl | omega | (dsimp only;omega) | (simp <;> omega))) rfl rfl pre0 rfl rfl ?_
  | refine hq_ 28 (hop_add rfl rfl) rfl rfl pre0 rfl rfl ?_
  refine sa<|hseq_nil<|hq_block ?_
  exact hL4 (i+1) _ _ (by (try dsimp only);exact ⟨by omega,by omega,by rw [←hs];exact (sld_yes _ _ _ (fun _ _=>samV_lt) hs1).symm⟩) (by (try dsimp only);omega) (hsub_of rfl (Nat.le_refl _) tsa HpSub.nil)
 have hr0:=hc0;(try simp only [hcs,Int.reduceToNat] at hc0)
 have hs1:¬ samV a b i i=true:=fun h9=>(by obtain ⟨h1,h2,h3⟩:=samV_iff.1 h9;simp only [Bool.and_eq_false_iff,decide_eq_false_iff_not] at hc0;rcases hc0 with (h | h) | h <;> first | exact h h3 | omega);obtain rfl:i=froV a b:=(by rw [←hs,sld_no _ _ hs1])
 refine hw_exit ?_
 refine hq_then_exit<|hq_then_exit<|hq_block_here<|h3 _<|srg fun N h7=>sm<|sa<|snl h7<|hw_ret ?_
 refine hq_ret1 rfl (rval_tmp rfl) [] rfl pre0 ?_
 exact Frz.fz
theorem back15_h (a b:List Tok) (ha:a.length≤1000) (hb:b.length≤1000):HPure Try.prog 35 [toksV a,toksV b] (intV (bk a b 0 0:Int)):=by
 refine hpure_of Try.func35 rfl kr _ _ _ rfl 38 rfl rfl (fun w F=>?_)
 refine srg fun N h1=>sa<|snl h1<|srg fun N h2=>sa<|snl h2<|hw_seq fun Nh3 h3=>hw_block ?_
 refine hw_loopc (α:=Nat) (fun x c=>⟨38,[(0,.v (toksV a)),(1,.v (toksV b)),(5,.v (intV (x:Int)))],[],c⟩) (fun x=>x≤a.length∧x≤b.length∧bk a b 0 x=bk a b 0 0) (fun x=>a.length - x) (0) (by exact ⟨Nat.zero_le _,Nat.zero_le _,rfl⟩) (hsub_of rfl (Nat.le_refl _) tsa HpSub.nil) (fun n c hx NhL4 hL4=>?_)
 (try dsimp only at hx hL4 ⊢)
 obtain ⟨hi,hi2,hs⟩:=hx
 refine hw_seq fun Nh5 h5=>hw_seq fun Nh6 h6=>hd_start ?_
 refine dm 1 ?_
 refine dm 2 ?_
 first
 | refine hd_q 8 (hop_len_sl (T:=22) rfl (elOf_spec el_22).1 rfl) rfl rfl pre0 rfl rfl (k':=3) rfl ?_
 | refine hd_q 8 (hop_len_os (T:=22) rfl (elOf_spec el_22).1 rfl) rfl rfl pre0 rfl rfl (k':=3) rfl ?_
 | refine hd_q 8 (hop_len_nil (T:=22) rfl (elOf_spec el_22).1 rfl) rfl rfl pre0 rfl rfl (k':=3) rfl ?_
 refine d0 4 hli ?_
 refine dm 5 ?_
 refine hd_g 11 4 10 true _ (fun hb=>hop_move rfl) rfl rfl rfl rfl pre0 rfl rfl rfl (k':=6) rfl ?_
 refine hd_g 12 4 10 true _ (fun hb=>hop_move rfl) rfl rfl rfl rfl pre0 rfl rfl rfl (k':=7) rfl ?_
 first
 | refine hd_g 13 4 10 true _ (fun hb=>hop_len_sl (T:=22) rfl (elOf_spec el_22).1 rfl) rfl rfl rfl rfl pre0 rfl rfl rfl (k':=8) rfl ?_
 | refine hd_g 13 4 10 true _ (fun hb=>hop_len_os (T:=22) rfl (elOf_spec el_22).1 rfl) rfl rfl rfl rfl pre0 rfl rfl rfl (k':=8) rfl ?_
 | refine hd_g 13 4 10 true _ (fun hb=>hop_len_nil (T:=22) rfl (elOf_spec el_22).1 rfl) rfl rfl rfl rfl pre0 rfl rfl rfl (k':=8) rfl ?_
 refine hd_g 14 4 10 true _ (fun hb=>hop_lss rfl rfl) rfl rfl rfl rfl pre0 rfl rfl rfl (k':=9) rfl ?_
 first
 | refine hd_p 15 (hstep_and _ _ rfl rfl rfl) rfl rfl rfl (k':=10) rfl ?_
 | refine hd_p 15 (hstep_or _ _ rfl rfl rfl) rfl rfl rfl (k':=10) rfl ?_
 | refine hd_p 15 (hstep_pick _ _ _ _ rfl rfl rfl (fun _=>.refl _) (fun _=>.refl _)) rfl rfl rfl (k':=10) rfl ?_
 refine dm 11 ?_
 refine hd_g 17 10 16 true _ (fun hb=>hop_move rfl) rfl rfl rfl rfl pre0 rfl rfl rfl (k':=12) rfl ?_
 refine hd_g 18 10 16 true _ (fun hb=>hop_move rfl) rfl rfl rfl rfl pre0 rfl rfl rfl (k':=13) rfl ?_
 first
 | refine hd_g 19 10 16 true _ (fun hb=>hop_len_sl (T:=22) rfl (elOf_spec el_22).1 rfl) rfl rfl rfl rfl pre0 rfl rfl rfl (k':=14) rfl ?_
 | refine hd_g 19 10 16 true _ (fun hb=>hop_len_os (T:=22) rfl (elOf_spec el_22).1 rfl) rfl rfl rfl rfl pre0 rfl rfl rfl (k':=14) rfl ?_
 | refine hd_g 19 10 16 true _ (fun hb=>hop_len_nil (T:=22) rfl (elOf_spec el_22).1 rfl) rfl rfl rfl rfl pre0 rfl rfl rfl (k':=14) rfl ?_
 first
 | refine hd_g 20 10 16 true _ (fun hb=>hop_subi rfl rfl rfl (by first | exact Nat.le_of_ble_eq_true rfl | (simp at hb;first | omega | (dsimp only;omega) | (simp <;> omega)) | omega | (dsimp only;omega)) (by first | exact Nat.le_of_ble_eq_true rfl | (simp at hb;first | omega | (dsimp only;omega) | (simp <;> omega)) | omega | (dsimp only;omega))) rfl rfl rfl rfl pre0 rfl rfl rfl (k':=15) rfl ?_
 | refine hd_g 20 10 16 true _ (fun hb=>hop_sub rfl rfl) rfl rfl rfl rfl pre0 rfl rfl rfl (k':=15) rfl ?_
 refine hd_g 21 10 16 true _ (fun hb=>hop_move rfl) rfl rfl rfl rfl pre0 rfl rfl rfl (k':=16) rfl ?_
 first
 | refine hd_g 22 10 16 true _ (fun hb=>hop_subi rfl rfl rfl (by first | exact Nat.le_of_ble_eq_true rfl | (simp at hb;first | omega | (dsimp only;omega) | (simp <;> omega)) | omega | (dsimp only;omega)) (by first | exact Nat.le_of_ble_eq_true rfl | (simp at hb;first | omega | (dsimp only;omega) | (simp <;> omega)) | omega | (dsimp only;omega))) rfl rfl rfl rfl pre0 rfl rfl rfl (k':=17) rfl ?_
 | refine hd_g 22 10 16 true _ (fun hb=>hop_sub rfl rfl) rfl rfl rfl rfl pre0 rfl rfl rfl (k':=17) rfl ?_
 first
 | refine hd_g 23 10 16 true _ (fun hb=>hop_ia_sl el_22 rfl rfl (by first | exact Nat.le_of_ble_eq_true rfl | (simp at hb;first | omega | (dsimp only;omega) | (simp <;> omega)) | omega | (dsimp only;omega)) (by first | exact Nat.le_of_ble_eq_true rfl | (simp at hb;first | omega | (dsimp only;omega) | (simp <;> omega)) | omega | (dsimp only;omega)) (by first | exact Nat.le_of_ble_eq_true rfl | (simp at hb;first | omega | (dsimp only;omega) | (simp <;> omega)) | omega | (dsimp only;omega))) rfl rfl rfl rfl pre0 rfl rfl rfl (k':=18) rfl ?_
 | refine hd_g 23 10 16 true _ (fun hb=>hol_ia_os el_22 rfl rfl (by first | exact Nat.le_of_ble_eq_true rfl | (simp at hb;first | omega | (dsimp only;omega) | (simp <;> omega)) | omega | (dsimp only;omega)) (by first | exact Nat.le_of_ble_eq_true rfl | (simp at hb;first | omega | (dsimp only;omega) | (simp <;> omega)) | omega | (dsimp only;omega))) rfl rfl rfl rfl (pre1 rfl) rfl rfl rfl (k':=18) rfl ?_
 first
 | refine hd_g 24 10 16 true _ (fun hb=>hol_load ty_71 rfl (by first | exact Nat.le_of_ble_eq_true rfl | (simp at hb;first | omega | (dsimp only;omega) | (simp <;> omega)) | omega | (dsimp only;omega)) (by first | exact Nat.le_of_ble_eq_true rfl | (simp at hb;first | omega | (dsimp only;omega) | (simp <;> omega)) | omega | (dsimp only;omega)) (fun h=>(by first | rfl | cases h))) rfl rfl rfl rfl (pre1 rfl) rfl rfl rfl (k':=19) rfl ?_
 | refine hd_g 24 10 16 true _ (fun hb=>hop_load_fp ty_71 rfl (by first | exact Nat.le_of_ble_eq_true rfl | (simp at hb;first | omega | (dsimp only;omega) | (simp <;> omega)) | omega | (dsimp only;omega)) (fun h=>(by first | rfl | cases h))) rfl rfl rfl rfl pre0 rfl rfl rfl (k':=19) rfl ?_
 refine hd_g 25 10 16 true _ (fun hb=>hop_move rfl) rfl rfl rfl rfl pre0 rfl rfl rfl (k':=20) rfl ?_
 refine hd_g 26 10 16 true _ (fun hb=>hop_move rfl) rfl rfl rfl rfl pre0 rfl rfl rfl (k':=21) rfl ?_
 first
 | refine hd_g 27 10 16 true _ (fun hb=>hop_len_sl (T:=22) rfl (elOf_spec el_22).1 rfl) rfl rfl rfl rfl pre0 rfl rfl rfl (k':=22) rfl ?_
 | refine hd_g 27 10 16 true _ (fun hb=>hop_len_os (T:=22) rfl (elOf_spec el_22).1 rfl) rfl rfl rfl rfl pre0 rfl rfl rfl (k':=22) rfl ?_
 | refine hd_g 27 10 16 true _ (fun hb=>hop_len_nil (T:=22) rfl (elOf_spec el_22).1 rfl) rfl rfl rfl rfl pre0 rfl rfl rfl (k':=22) rfl ?_
 first
 | refine hd_g 28 10 16 true _ (fun hb=>hop_subi rfl rfl rfl (by first | exact Nat.le_of_ble_eq_true rfl | (simp at hb;first | omega | (dsimp only;omega) | (simp <;> omega)) | omega | (dsimp only;omega)) (by first | exact Nat.le_of_ble_eq_true rfl | (simp at hb;first | omega | (dsimp only;omega) | (simp <;> omega)) | omega | (dsimp only;omega))) rfl rfl rfl rfl pre0 rfl rfl rfl (k':=23) rfl ?_
 | refine hd_g 28 10 16 true _ (fun hb=>hop_sub rfl rfl) rfl rfl rfl rfl pre0 rfl rfl rfl (k':=23) rfl ?_
 refine hd_g 29 10 16 true _ (fun hb=>hop_move rfl) rfl rfl rfl rfl pre0 rfl rfl rfl (k':=24) rfl ?_
 first
 | refine hd_g 30 10 16 true _ (fun hb=>hop_subi rfl rfl rfl (by first | exact Nat.le_of_ble_eq_true rfl | (simp at hb;first | omega | (dsimp only;omega) | (simp <;> omega)) | omega | (dsimp only;omega)) (by first | exact Nat.le_of_ble_eq_true rfl | (simp at hb;first | omega | (dsimp only;omega) | (simp <;> omega)) | omega | (dsimp only;omega))) rfl rfl rfl rfl pre0 rfl rfl rfl (k':=25) rfl ?_
 | refine hd_g 30 10 16 true _ (fun hb=>hop_sub rfl rfl) rfl rfl rfl rfl pre0 rfl rfl rfl (k':=25) rfl ?_
 first
 | refine hd_g 31 10 16 true _ (fun hb=>hop_ia_sl el_22 rfl rfl (by first | exact Nat.le_of_ble_eq_true rfl | (simp at hb;first | omega | (dsimp only;omega) | (simp <;> omega)) | omega | (dsimp only;omega)) (by first | exact Nat.le_of_ble_eq_true rfl | (simp at hb;first | omega | (dsimp only;omega) | (simp <;> omega)) | omega | (dsimp only;omega)) (by first | exact Nat.le_of_ble_eq_true rfl | (simp at hb;first | omega | (dsimp only;omega) | (simp <;> omega)) | omega | (dsimp only;omega))) rfl rfl rfl rfl pre0 rfl rfl rfl (k':=26) rfl ?_
 | refine hd_g 31 10 16 true _ (fun hb=>hol_ia_os el_22 rfl rfl (by first | exact Nat.le_of_ble_eq_true rfl | (simp at hb;first | omega | (dsimp only;omega) | (simp <;> omega)) | omega | (dsimp only;omega)) (by first | exact Nat.le_of_ble_eq_true rfl | (simp at hb;first | omega | (dsimp only;omega) | (simp <;> omega)) | omega | (dsimp only;omega))) rfl rfl rfl rfl (pre1 rfl) rfl rfl rfl (k':=26) rfl ?_
 first
 | refine hd_g 32 10 16 true _ (fun hb=>hol_load ty_71 rfl (by first | exact Nat.le_of_ble_eq_true rfl | (simp at hb;first | omega | (dsimp only;omega) | (simp <;> omega)) | omega | (dsimp only;omega)) (by first | exact Nat.le_of_ble_eq_true rfl | (simp at hb;first | omega | (dsimp only;omega) | (simp <;> omega)) | omega | (dsimp only;omega)) (fun h=>(by first | rfl | cases h))) rfl rfl rfl rfl (pre1 rfl) rfl rfl rfl (k':=27) rfl ?_
 | refine hd_g 32 10 16 true _ (fun hb=>hop_load_fp ty_71 rfl (by first | exact Nat.le_of_ble_eq_true rfl | (simp at hb;first | omega | (dsimp only;omega) | (simp <;> omega)) | omega | (dsimp only;omega)) (fun h=>(by first | rfl | cases h))) rfl rfl rfl rfl pre0 rfl rfl rfl (k':=27) rfl ?_
 refine hd_g 33 10 16 true _ (fun hb=>hop_eql_tok _ _ rfl rfl rfl (fun _ _=>rfl) (fun _ _=>rfl)) rfl rfl rfl rfl pre0 rfl rfl rfl (k':=28) rfl ?_
 first
 | refine hd_p 34 (hstep_and _ _ rfl rfl rfl) rfl rfl rfl (k':=29) rfl ?_
 | refine hd_p 34 (hstep_or _ _ rfl rfl rfl) rfl rfl rfl (k':=29) rfl ?_
 | refine hd_p 34 (hstep_pick _ _ _ _ rfl rfl rfl (fun _=>.refl _) (fun _=>.refl _)) rfl rfl rfl (k':=29) rfl ?_
 refine hd_nil kr kr (c':=c+29) rfl ?_
 refine h6 _ ?_
 refine wc (fun hc0=>?_) (fun hc0=>?_)
 ·have hr0:=hc0;(try simp only [hcs,Int.reduceToNat] at hc0)
  have hy:0+n < a.length∧0+n < b.length∧a.getD (a.length - 1 - n) tok0=b.getD (b.length - 1 - n) tok0:=(by obtain ⟨⟨h1,h2⟩,h3⟩:=hc0;rw [show ((a.length:Int) - 1 - n).toNat=a.length - 1 - n by omega,show ((b.length:Int) - 1 - n).toNat=b.length - 1 - n by omega] at h3;exact ⟨by omega,by omega,h3⟩)
  refine hw_skip<|h5 _<|hw_block<|hw_region<|sm ?_
  first
  | refine hq_ 36 (hop_addi rfl rfl rfl (by first | exact Nat.le_of_ble_eq_true rfl | omega | (dsimp only;omega) | (simp <;> omega)) (by first | exact Nat.le_of_ble_eq_true rfl | omega | (dsimp only;omega) | (simp <;> omega))) rfl rfl pre0 rfl rfl ?_
  | refine hq_ 36 (hop_add rfl rfl) rfl rfl pre0 rfl rfl ?_
  refine sa<|hseq_nil<|hq_block ?_
  exact hL4 (n+1) _ _ (by (try dsimp only);exact ⟨by omega,by omega,by rw [←hs];exact (bk_yes hy).symm⟩) (by (try dsimp only);omega) (hsub_of rfl (Nat.le_refl _) tsa HpSub.nil)
 have hr0:=hc0;(try simp only [hcs,Int.reduceToNat] at hc0)
 have hy:¬ (0+n < a.length∧0+n < b.length∧a.getD (a.length - 1 - n) tok0=b.getD (b.length - 1 - n) tok0):=fun h9=>(by obtain ⟨h1,h2,h3⟩:=h9;rw [show ((a.length:Int) - 1 - n).toNat=a.length - 1 - n by omega,show ((b.length:Int) - 1 - n).toNat=b.length - 1 - n by omega] at hc0;simp only [Bool.and_eq_false_iff,decide_eq_false_iff_not] at hc0;rcases hc0 with (h | h) | h <;> first | exact h h3 | omega);obtain rfl:n=bk a b 0 0:=(by rw [←hs,bk_no hy])
 refine hw_exit ?_
 refine hq_then_exit<|hq_then_exit<|hq_block_here<|h3 _<|srg fun N h7=>sm<|sa<|snl h7<|hw_ret ?_
 refine hq_ret1 rfl (rval_tmp rfl) [] rfl pre0 ?_
 exact Frz.fz
theorem fz_cut {sh:List (Nat×HObj)} {n:Nat} {G:Nat→Nat→HV} {l:List Tok} (hn:n=l.length) (hG:∀ i j,i < n→j < 12→G i j=tokF (l.getD i tok0) j):Fz sh (.sl 12 n G) (toksV l):=by
 subst hn
 refine .sl _ _ _ _ fun i j hi hj=>?_
 rw [hG i j hi hj];exact fz_tokF _ _
theorem refOne_h (a b:List Tok) (ha:a.length≤1000) (hb:b.length≤1000):HPure Try.prog 9 [toksV a,toksV b] (stV (oneV a b)):=by
 have hf:=fro_le a b
 have hk:froV a b+bk a b (froV a b) 0≤a.length∧froV a b+bk a b (froV a b) 0≤b.length:=bkF_le a b (froV a b) (a.length - 0) 0 (by omega)
 refine hpure_of Try.func9 rfl kr _ _ _ rfl 32 rfl rfl (fun w F=>?_)
 refine srg fun N h1=>?_
 refine hm_1 4 (hop_alloc (id:=4) (sz:=10) zc_26 rfl rfl omx omx) rfl rfl pre0 rfl rfl (c':=1) rfl ?_
 refine snl h1<|srg fun N h2=>sm<|sm ?_
 refine s0 (hop_call0 (xs:=[_,_]) (front_h a b ha hb) ⟨rfl,⟨rfl,trivial⟩⟩ ⟨fe,⟨fe,trivial⟩⟩) ?_
 refine sa<|snl h2<|hw_seq fun Nh3 h3=>hd_start ?_
 refine dm 1 ?_
 refine dm 2 ?_
 first
 | refine hd_q 12 (hop_cut_sl el_22 rfl (.inr ⟨_,_,rfl,rfl⟩) (.inl ⟨rfl,rfl⟩) (by first | exact Nat.le_of_ble_eq_true rfl | omega | (dsimp only;omega) | (simp <;> omega)) (by first | exact Nat.le_of_ble_eq_true rfl | omega | (dsimp only;omega) | (simp <;> omega)) (by first | exact Nat.le_of_ble_eq_true rfl | omega | (dsimp only;omega) | (simp <;> omega))) rfl rfl pre0 rfl rfl (k':=3) rfl ?_
 | refine hd_q 12 (hol_cut_os el_22 rfl (.inr ⟨_,_,rfl,rfl⟩) (.inl ⟨rfl,rfl⟩) (by first | exact Nat.le_of_ble_eq_true rfl | omega | (dsimp only;omega) | (simp <;> omega)) (by first | exact Nat.le_of_ble_eq_true rfl | omega | (dsimp only;omega) | (simp <;> omega)) (by first | exact Nat.le_of_ble_eq_true rfl | omega | (dsimp only;omega) | (simp <;> omega))) rfl rfl (pre1 rfl) rfl rfl (k':=3) rfl ?_
 refine dm 4 ?_
 refine dm 5 ?_
 first
 | refine hd_q 15 (hop_cut_sl el_22 rfl (.inr ⟨_,_,rfl,rfl⟩) (.inl ⟨rfl,rfl⟩) (by first | exact Nat.le_of_ble_eq_true rfl | omega | (dsimp only;omega) | (simp <;> omega)) (by first | exact Nat.le_of_ble_eq_true rfl | omega | (dsimp only;omega) | (simp <;> omega)) (by first | exact Nat.le_of_ble_eq_true rfl | omega | (dsimp only;omega) | (simp <;> omega))) rfl rfl pre0 rfl rfl (k':=6) rfl ?_
 | refine hd_q 15 (hol_cut_os el_22 rfl (.inr ⟨_,_,rfl,rfl⟩) (.inl ⟨rfl,rfl⟩) (by first | exact Nat.le_of_ble_eq_true rfl | omega | (dsimp only;omega) | (simp <;> omega)) (by first | exact Nat.le_of_ble_eq_true rfl | omega | (dsimp only;omega) | (simp <;> omega)) (by first | exact Nat.le_of_ble_eq_true rfl | omega | (dsimp only;omega) | (simp <;> omega))) rfl rfl (pre1 rfl) rfl rfl (k':=6) rfl ?_
 refine d0 7 (hop_call0 (xs:=[_,_]) (back15_h (a.drop (froV a b)) (b.drop (froV a b)) (by rw [List.length_drop];omega) (by rw [List.length_drop];omega)) ⟨rfl,⟨rfl,trivial⟩⟩ ⟨(fz_cut (by rw [List.length_drop];omega) (fun i j hi hj=>by rw [getD_drop];rfl)),⟨(fz_cut (by rw [List.length_drop];omega) (fun i j hi hj=>by rw [getD_drop];rfl)),trivial⟩⟩) ?_
 refine d0 8 (HOp.val (v':=intV (bk a b (froV a b) 0:Int)) (hop_assign rfl) ((by rw [bk_drop]))) ?_
 refine hd_nil kr kr (c':=9) rfl ?_
 refine h3 _<|srg fun N h4=>sm<|sm ?_
 first
 | refine hq_ 19 (hop_len_sl (T:=22) rfl (elOf_spec el_22).1 rfl) rfl rfl pre0 rfl rfl ?_
 | refine hq_ 19 (hop_len_os (T:=22) rfl (elOf_spec el_22).1 rfl) rfl rfl pre0 rfl rfl ?_
 | refine hq_ 19 (hop_len_nil (T:=22) rfl (elOf_spec el_22).1 rfl) rfl rfl pre0 rfl rfl ?_
 refine sm ?_
 first
 | refine hq_ 21 (hop_subi rfl rfl rfl (by first | exact Nat.le_of_ble_eq_true rfl | omega | (dsimp only;omega) | (simp <;> omega)) (by first | exact Nat.le_of_ble_eq_true rfl | omega | (dsimp only;omega) | (simp <;> omega))) rfl rfl pre0 rfl rfl ?_
 | refine hq_ 21 (hop_sub rfl rfl) rfl rfl pre0 rfl rfl ?_
 refine hm_1 22 (hop_buildSlice (id:=22) (hs:=[]) ei_22 omx rfl omx trivial) rfl rfl pre0 rfl rfl (c':=10) rfl ?_
 refine sm<|sm<|sm ?_
 first
 | refine hq_ 26 (hop_len_sl (T:=22) rfl (elOf_spec el_22).1 rfl) rfl rfl pre0 rfl rfl ?_
 | refine hq_ 26 (hop_len_os (T:=22) rfl (elOf_spec el_22).1 rfl) rfl rfl pre0 rfl rfl ?_
 | refine hq_ 26 (hop_len_nil (T:=22) rfl (elOf_spec el_22).1 rfl) rfl rfl pre0 rfl rfl ?_
 refine sm ?_
 first
 | refine hq_ 28 (hop_subi rfl rfl rfl (by first | exact Nat.le_of_ble_eq_true rfl | omega | (dsimp only;omega) | (simp <;> omega)) (by first | exact Nat.le_of_ble_eq_true rfl | omega | (dsimp only;omega) | (simp <;> omega))) rfl rfl pre0 rfl rfl ?_
 | refine hq_ 28 (hop_sub rfl rfl) rfl rfl pre0 rfl rfl ?_
 first
 | refine hq_ 29 (hop_cut_sl el_22 rfl (.inr ⟨_,_,rfl,rfl⟩) (.inr ⟨_,_,rfl,rfl⟩) (by first | exact Nat.le_of_ble_eq_true rfl | omega | (dsimp only;omega) | (simp <;> omega)) (by first | exact Nat.le_of_ble_eq_true rfl | omega | (dsimp only;omega) | (simp <;> omega)) (by first | exact Nat.le_of_ble_eq_true rfl | omega | (dsimp only;omega) | (simp <;> omega))) rfl rfl pre0 rfl rfl ?_
 | refine hq_ 29 (hol_cut_os el_22 rfl (.inr ⟨_,_,rfl,rfl⟩) (.inr ⟨_,_,rfl,rfl⟩) (by first | exact Nat.le_of_ble_eq_true rfl | omega | (dsimp only;omega) | (simp <;> omega)) (by first | exact Nat.le_of_ble_eq_true rfl | omega | (dsimp only;omega) | (simp <;> omega)) (by first | exact Nat.le_of_ble_eq_true rfl | omega | (dsimp only;omega) | (simp <;> omega))) rfl rfl (pre1 rfl) rfl rfl ?_
 first
 | refine hm_1 30 (hol_append ei_22 (by first | exact Nat.le_of_ble_eq_true rfl | omega | (dsimp only;omega) | (simp <;> omega)) rfl (by first | exact Nat.le_of_ble_eq_true rfl | omega | (dsimp only;omega) | (simp <;> omega)) (by first | exact Nat.le_of_ble_eq_true rfl | omega | (dsimp only;omega) | (simp <;> omega)) (srl_os0 rfl (by first | exact Nat.le_of_ble_eq_true rfl | omega | (dsimp only;omega) | (simp <;> omega))) (by first | exact Nat.le_of_ble_eq_true rfl | omega | (dsimp only;omega) | (simp <;> omega)) rfl) rfl rfl (preC rfl (pre1 rfl)) rfl rfl (c':=11) rfl ?_
 | refine hm_1 30 (hol_append ei_22 (by first | exact Nat.le_of_ble_eq_true rfl | omega | (dsimp only;omega) | (simp <;> omega)) rfl (by first | exact Nat.le_of_ble_eq_true rfl | omega | (dsimp only;omega) | (simp <;> omega)) (by first | exact Nat.le_of_ble_eq_true rfl | omega | (dsimp only;omega) | (simp <;> omega)) (srl_os rfl (by first | exact Nat.le_of_ble_eq_true rfl | omega | (dsimp only;omega) | (simp <;> omega))) (by first | exact Nat.le_of_ble_eq_true rfl | omega | (dsimp only;omega) | (simp <;> omega)) rfl) rfl rfl (preC rfl (pre1 rfl)) rfl rfl (c':=11) rfl ?_
 | refine hm_1 30 (hol_append ei_22 (by first | exact Nat.le_of_ble_eq_true rfl | omega | (dsimp only;omega) | (simp <;> omega)) rfl (by first | exact Nat.le_of_ble_eq_true rfl | omega | (dsimp only;omega) | (simp <;> omega)) (by first | exact Nat.le_of_ble_eq_true rfl | omega | (dsimp only;omega) | (simp <;> omega)) (src_sl rfl) (by first | exact Nat.le_of_ble_eq_true rfl | omega | (dsimp only;omega) | (simp <;> omega)) rfl) rfl rfl (preC rfl pre0) rfl rfl (c':=11) rfl ?_
 | refine hm_1 30 (hol_append ei_22 (by first | exact Nat.le_of_ble_eq_true rfl | omega | (dsimp only;omega) | (simp <;> omega)) rfl (by first | exact Nat.le_of_ble_eq_true rfl | omega | (dsimp only;omega) | (simp <;> omega)) (by first | exact Nat.le_of_ble_eq_true rfl | omega | (dsimp only;omega) | (simp <;> omega)) (src_nil 12 (fun _ _=>default) rfl) (by first | exact Nat.le_of_ble_eq_true rfl | omega | (dsimp only;omega) | (simp <;> omega)) rfl) rfl rfl (preC rfl pre0) rfl rfl (c':=11) rfl ?_
 refine s0 (hop_build (hs:=[(0,1,_),(1,1,_),(2,1,_),(8,1,_)]) st_26 rfl rfl ⟨rfl,rfl,rfl,rfl,rfl,⟨rfl,rfl,rfl,rfl,rfl,⟨rfl,rfl,rfl,rfl,rfl,⟨rfl,rfl,rfl,rfl,rfl,trivial⟩⟩⟩⟩) ?_
 first
 | refine hm_s1 (hol_storeW ty_26 rfl rfl rfl rfl) rfl rfl (pre1 rfl) (c':=12) rfl ?_
 | refine hm_s1 (hol_store ty_26 rfl rfl rfl rfl (by first | exact Nat.le_of_ble_eq_true rfl | omega | (dsimp only;omega) | (simp <;> omega)) (by first | exact Nat.le_of_ble_eq_true rfl | omega | (dsimp only;omega) | (simp <;> omega)) (by first | exact Nat.le_of_ble_eq_true rfl | omega | (dsimp only;omega) | (simp <;> omega))) rfl rfl (pre1 rfl) (c':=12) rfl ?_
 refine snl h4<|hw_ret ?_
 refine hq_ret1 rfl (rvl_cell rfl rfl ty_26 rqc rfl rfl) [(22,_)] rfl (preC rfl pre0) ?_
 exact (fz_agg10 fzc fzc (by exact (fz_intV (show _=((a.length - bk a b (froV a b) 0:Nat):Int) by omega))) fzc fzc fzc fzc fzc (by exact (fz_toksO (l:=(b.take (b.length - bk a b (froV a b) 0)).drop (froV a b)) (.head _) (Nat.le_refl _) (by rw [List.length_drop,List.length_take];omega) (fun i j hi hj=>by rw [cat_ge (Nat.zero_le _),Nat.sub_zero,cut_get om];rfl))) fzc)
@[reducible] def z10:Nat→Nat→HV:=fun _ j=>.imm ([Value.int IntKind.i64 0,Value.int IntKind.i64 0,Value.int IntKind.i64 0,Value.int IntKind.i64 0,Value.int IntKind.i64 0,Value.int IntKind.i64 0,Value.int IntKind.i64 0,Value.int IntKind.i64 0,Value.slice none 0 0,Value.slice none 0 0].getD j undef)
theorem one_h (a b:List Tok) (ha:a.length≤1000) (hb:b.length≤1000):HPure Try.prog 7 [toksV a,toksV b] (t2 (stV (if a=b then St.none else oneV a b)) (boolV (!decide (a=b)))):=by
 have hf:=fro_le a b
 have hk:froV a b+bk a b (froV a b) 0≤a.length∧froV a b+bk a b (froV a b) 0≤b.length:=bkF_le a b (froV a b) (a.length - 0) 0 (by omega)
 refine hpure_of Try.func7 rfl kr _ _ _ rfl 70 rfl rfl (fun w F=>?_)
 refine srg fun N h1=>?_
 refine hm_1 4 (hop_alloc (id:=4) (sz:=10) zc_26 rfl rfl omx omx) rfl rfl pre0 rfl rfl (c':=1) rfl ?_
 refine sa<|snl h1<|hw_seq fun Nh2 h2=>srg fun N h3=>sm<|sm ?_
 refine s0 (hop_call0 (xs:=[_,_]) (sameT_h a b om om) ⟨rfl,⟨rfl,trivial⟩⟩ ⟨fe,⟨fe,trivial⟩⟩) ?_
 refine snl h3 ?_
 refine wc (fun hc0=>?_) (fun hc0=>?_)
 ·have hr0:=hc0;(try simp only [hcs,Int.reduceToNat] at hc0)
  have hab:a=b:=(by simpa using hr0)
  refine srg fun N h4=>?_
  refine s0 (hop_build (hs:=[]) st_26 rfl rfl trivial) ?_
  first
  | refine hm_s1 (hol_storeW ty_26 rfl rfl rfl rfl) rfl rfl (pre1 rfl) (c':=2) rfl ?_
  | refine hm_s1 (hol_store ty_26 rfl rfl rfl rfl (by first | exact Nat.le_of_ble_eq_true rfl | omega | (dsimp only;omega) | (simp <;> omega)) (by first | exact Nat.le_of_ble_eq_true rfl | omega | (dsimp only;omega) | (simp <;> omega)) (by first | exact Nat.le_of_ble_eq_true rfl | omega | (dsimp only;omega) | (simp <;> omega))) rfl rfl (pre1 rfl) (c':=2) rfl ?_
  refine sa<|snl h4<|hw_ret<|hq_then_ret ?_
  refine hq_ret2 rfl (rvl_cell rfl rfl ty_26 rqc rfl rfl) (rval_tmp rfl) [] rfl pre0 ?_
  rw [if_pos hab,decide_eq_true hab];exact fz_t2 (fz_agg10 fzc fzc fzc fzc fzc fzc fzc fzc fzc fzc) (.imm _)
 have hr0:=hc0;(try simp only [hcs,Int.reduceToNat] at hc0)
 have hab:¬ a=b:=(by simpa using hr0)
 refine hw_skip<|h2 _<|srg fun N h5=>sa<|snl h5<|hw_seq fun Nh6 h6=>hw_block ?_
 refine hw_loopc (α:=Nat) (fun x c=>⟨70,[(0,.v (toksV a)),(1,.v (toksV b)),(4,.v (.pt 4 0 0 0)),(6,.v (intV (x:Int)))],[(4,⟨0,1,10,26,0,z10⟩)],c⟩) (fun x=>x≤a.length∧x≤b.length∧sld (samV a b) a.length x x=froV a b) (fun x=>a.length - x) (0) (by exact ⟨Nat.zero_le _,Nat.zero_le _,rfl⟩) (hsub_of rfl (Nat.le_refl _) tsa hsa) (fun i c hx NhL7 hL7=>?_)
 (try dsimp only at hx hL7 ⊢)
 obtain ⟨hi,hi2,hs⟩:=hx
 refine hw_seq fun Nh8 h8=>hw_seq fun Nh9 h9=>hd_start ?_
 refine dm 1 ?_
 refine dm 2 ?_
 first
 | refine hd_q 15 (hop_len_sl (T:=22) rfl (elOf_spec el_22).1 rfl) rfl rfl pre0 rfl rfl (k':=3) rfl ?_
 | refine hd_q 15 (hop_len_os (T:=22) rfl (elOf_spec el_22).1 rfl) rfl rfl pre0 rfl rfl (k':=3) rfl ?_
 | refine hd_q 15 (hop_len_nil (T:=22) rfl (elOf_spec el_22).1 rfl) rfl rfl pre0 rfl rfl (k':=3) rfl ?_
 refine dm 4 ?_
 first
 | refine hd_q 17 (hop_len_sl (T:=22) rfl (elOf_spec el_22).1 rfl) rfl rfl pre0 rfl rfl (k':=5) rfl ?_
 | refine hd_q 17 (hop_len_os (T:=22) rfl (elOf_spec el_22).1 rfl) rfl rfl pre0 rfl rfl (k':=5) rfl ?_
 | refine hd_q 17 (hop_len_nil (T:=22) rfl (elOf_spec el_22).1 rfl) rfl rfl pre0 rfl rfl (k':=5) rfl ?_
 refine d0 6 (HOp.val (v':=intV ((min a.length b.length:Nat):Int)) (hop_min rfl rfl) (congrArg intV (by omega))) ?_
 refine d0 7 hli ?_
 refine dm 8 ?_
 refine hd_g 21 7 20 true _ (fun hb=>hop_move rfl) rfl rfl rfl rfl pre0 rfl rfl rfl (k':=9) rfl ?_
 refine hd_g 22 7 20 true _ (fun hb=>hop_move rfl) rfl rfl rfl rfl pre0 rfl rfl rfl (k':=10) rfl ?_
 first
 | refine hd_g 23 7 20 true _ (fun hb=>hop_ia_sl el_22 rfl rfl (by first | exact Nat.le_of_ble_eq_true rfl | (simp at hb;first | omega | (dsimp only;omega) | (simp <;> omega)) | omega | (dsimp only;omega)) (by first | exact Nat.le_of_ble_eq_true rfl | (simp at hb;first | omega | (dsimp only;omega) | (simp <;> omega)) | omega | (dsimp only;omega)) (by first | exact Nat.le_of_ble_eq_true rfl | (simp at hb;first | omega | (dsimp only;omega) | (simp <;> omega)) | omega | (dsimp only;omega))) rfl rfl rfl rfl pre0 rfl rfl rfl (k':=11) rfl ?_
 | refine hd_g 23 7 20 true _ (fun hb=>hol_ia_os el_22 rfl rfl (by first | exact Nat.le_of_ble_eq_true rfl | (simp at hb;first | omega | (dsimp only;omega) | (simp <;> omega)) | omega | (dsimp only;omega)) (by first | exact Nat.le_of_ble_eq_true rfl | (simp at hb;first | omega | (dsimp only;omega) | (simp <;> omega)) | omega | (dsimp only;omega))) rfl rfl rfl rfl (pre1 rfl) rfl rfl rfl (k':=11) rfl ?_
 first
 | refine hd_g 24 7 20 true _ (fun hb=>hol_load ty_71 rfl (by first | exact Nat.le_of_ble_eq_true rfl | (simp at hb;first | omega | (dsimp only;omega) | (simp <;> omega)) | omega | (dsimp only;omega)) (by first | exact Nat.le_of_ble_eq_true rfl | (simp at hb;first | omega | (dsimp only;omega) | (simp <;> omega)) | omega | (dsimp only;omega)) (fun h=>(by first | rfl | cases h))) rfl rfl rfl rfl (pre1 rfl) rfl rfl rfl (k':=12) rfl ?_
 | refine hd_g 24 7 20 true _ (fun hb=>hop_load_fp ty_71 rfl (by first | exact Nat.le_of_ble_eq_true rfl | (simp at hb;first | omega | (dsimp only;omega) | (simp <;> omega)) | omega | (dsimp only;omega)) (fun h=>(by first | rfl | cases h))) rfl rfl rfl rfl pre0 rfl rfl rfl (k':=12) rfl ?_
 refine hd_g 25 7 20 true _ (fun hb=>hop_move rfl) rfl rfl rfl rfl pre0 rfl rfl rfl (k':=13) rfl ?_
 refine hd_g 26 7 20 true _ (fun hb=>hop_move rfl) rfl rfl rfl rfl pre0 rfl rfl rfl (k':=14) rfl ?_
 first
 | refine hd_g 27 7 20 true _ (fun hb=>hop_ia_sl el_22 rfl rfl (by first | exact Nat.le_of_ble_eq_true rfl | (simp at hb;first | omega | (dsimp only;omega) | (simp <;> omega)) | omega | (dsimp only;omega)) (by first | exact Nat.le_of_ble_eq_true rfl | (simp at hb;first | omega | (dsimp only;omega) | (simp <;> omega)) | omega | (dsimp only;omega)) (by first | exact Nat.le_of_ble_eq_true rfl | (simp at hb;first | omega | (dsimp only;omega) | (simp <;> omega)) | omega | (dsimp only;omega))) rfl rfl rfl rfl pre0 rfl rfl rfl (k':=15) rfl ?_
 | refine hd_g 27 7 20 true _ (fun hb=>hol_ia_os el_22 rfl rfl (by first | exact Nat.le_of_ble_eq_true rfl | (simp at hb;first | omega | (dsimp only;omega) | (simp <;> omega)) | omega | (dsimp only;omega)) (by first | exact Nat.le_of_ble_eq_true rfl | (simp at hb;first | omega | (dsimp only;omega) | (simp <;> omega)) | omega | (dsimp only;omega))) rfl rfl rfl rfl (pre1 rfl) rfl rfl rfl (k':=15) rfl ?_
 first
 | refine hd_g 28 7 20 true _ (fun hb=>hol_load ty_71 rfl (by first | exact Nat.le_of_ble_eq_true rfl | (simp at hb;first | omega | (dsimp only;omega) | (simp <;> omega)) | omega | (dsimp only;omega)) (by first | exact Nat.le_of_ble_eq_true rfl | (simp at hb;first | omega | (dsimp only;omega) | (simp <;> omega)) | omega | (dsimp only;omega)) (fun h=>(by first | rfl | cases h))) rfl rfl rfl rfl (pre1 rfl) rfl rfl rfl (k':=16) rfl ?_
 | refine hd_g 28 7 20 true _ (fun hb=>hop_load_fp ty_71 rfl (by first | exact Nat.le_of_ble_eq_true rfl | (simp at hb;first | omega | (dsimp only;omega) | (simp <;> omega)) | omega | (dsimp only;omega)) (fun h=>(by first | rfl | cases h))) rfl rfl rfl rfl pre0 rfl rfl rfl (k':=16) rfl ?_
 refine hd_g 29 7 20 true _ (fun hb=>hop_eql_tok _ _ rfl rfl rfl (fun _ _=>rfl) (fun _ _=>rfl)) rfl rfl rfl rfl pre0 rfl rfl rfl (k':=17) rfl ?_
 first
 | refine hd_p 30 (hstep_and _ _ rfl rfl rfl) rfl rfl rfl (k':=18) rfl ?_
 | refine hd_p 30 (hstep_or _ _ rfl rfl rfl) rfl rfl rfl (k':=18) rfl ?_
 | refine hd_p 30 (hstep_pick _ _ _ _ rfl rfl rfl (fun _=>.refl _) (fun _=>.refl _)) rfl rfl rfl (k':=18) rfl ?_
 refine hd_nil kr kr (c':=c+18) rfl ?_
 refine h9 _ ?_
 refine wc (fun hc1=>?_) (fun hc1=>?_)
 ·have hr1:=hc1;(try simp only [hcs,Int.reduceToNat] at hc1)
  have hs1:samV a b i i=true:=samV_iff.2 ⟨by omega,by omega,hc1.2⟩;have hlt:=samV_lt hs1
  refine hw_skip<|h8 _<|hw_block<|hw_region<|sm ?_
  first
  | refine hq_ 32 (hop_addi rfl rfl rfl (by first | exact Nat.le_of_ble_eq_true rfl | omega | (dsimp only;omega) | (simp <;> omega)) (by first | exact Nat.le_of_ble_eq_true rfl | omega | (dsimp only;omega) | (simp <;> omega))) rfl rfl pre0 rfl rfl ?_
  | refine hq_ 32 (hop_add rfl rfl) rfl rfl pre0 rfl rfl ?_
  refine sa<|hseq_nil<|hq_block ?_
  exact hL7 (i+1) _ _ (by (try dsimp only);exact ⟨by omega,by omega,by rw [←hs];exact (sld_yes _ _ _ (fun _ _=>samV_lt) hs1).symm⟩) (by (try dsimp only);omega) (hsub_of rfl (Nat.le_refl _) tsa hsa)
 have hr1:=hc1;(try simp only [hcs,Int.reduceToNat] at hc1)
 have hs1:¬ samV a b i i=true:=fun h9=>(by obtain ⟨h1,h2,h3⟩:=samV_iff.1 h9;simp only [Bool.and_eq_false_iff,decide_eq_false_iff_not] at hc1;rcases hc1 with h | h <;> first | exact h h3 | omega);obtain rfl:i=froV a b:=(by rw [←hs,sld_no _ _ hs1])
 refine hw_exit ?_
 refine hq_then_exit<|hq_then_exit<|hq_block_here<|h6 _<|srg fun N h10=>sm ?_
 first
 | refine hq_ 34 (hop_len_sl (T:=22) rfl (elOf_spec el_22).1 rfl) rfl rfl pre0 rfl rfl ?_
 | refine hq_ 34 (hop_len_os (T:=22) rfl (elOf_spec el_22).1 rfl) rfl rfl pre0 rfl rfl ?_
 | refine hq_ 34 (hop_len_nil (T:=22) rfl (elOf_spec el_22).1 rfl) rfl rfl pre0 rfl rfl ?_
 refine sm ?_
 first
 | refine hq_ 36 (hop_len_sl (T:=22) rfl (elOf_spec el_22).1 rfl) rfl rfl pre0 rfl rfl ?_
 | refine hq_ 36 (hop_len_os (T:=22) rfl (elOf_spec el_22).1 rfl) rfl rfl pre0 rfl rfl ?_
 | refine hq_ 36 (hop_len_nil (T:=22) rfl (elOf_spec el_22).1 rfl) rfl rfl pre0 rfl rfl ?_
 refine sa<|sa<|snl h10<|hw_seq fun Nh11 h11=>hw_block ?_
 refine hw_loopc (α:=Nat) (fun x c=>⟨70,[(0,.v (toksV a)),(1,.v (toksV b)),(4,.v (.pt 4 0 0 0)),(6,.v (intV (froV a b:Int))),(7,.v (intV ((a.length:Int) - x))),(8,.v (intV ((b.length:Int) - x)))],[(4,⟨0,1,10,26,0,z10⟩)],c⟩) (fun x=>froV a b+x≤a.length∧froV a b+x≤b.length∧bk a b (froV a b) x=bk a b (froV a b) 0) (fun x=>a.length - x) (0) (by exact ⟨hf.1,hf.2,rfl⟩) (hsub_of rfl (Nat.le_refl _) (tsr rfl (tsr rfl (tsr rfl (tsr rfl (TmSub.cons rfl (sb_intV om) (TmSub.cons rfl (sb_intV om) TmSub.nil)))))) hsa) (fun n c hx NhL12 hL12=>?_)
 (try dsimp only at hx hL12 ⊢)
 obtain ⟨hn1,hn2,hs⟩:=hx
 refine hw_seq fun Nh13 h13=>hw_seq fun Nh14 h14=>hd_start ?_
 refine dm 1 ?_
 refine dm 2 ?_
 refine d0 3 (hop_gtr rfl rfl) ?_
 refine dm 4 ?_
 refine hd_g 41 3 40 true _ (fun hb=>hop_move rfl) rfl rfl rfl rfl pre0 rfl rfl rfl (k':=5) rfl ?_
 refine hd_g 42 3 40 true _ (fun hb=>hop_move rfl) rfl rfl rfl rfl pre0 rfl rfl rfl (k':=6) rfl ?_
 refine hd_g 43 3 40 true _ (fun hb=>hop_gtr rfl rfl) rfl rfl rfl rfl pre0 rfl rfl rfl (k':=7) rfl ?_
 first
 | refine hd_p 44 (hstep_and _ _ rfl rfl rfl) rfl rfl rfl (k':=8) rfl ?_
 | refine hd_p 44 (hstep_or _ _ rfl rfl rfl) rfl rfl rfl (k':=8) rfl ?_
 | refine hd_p 44 (hstep_pick _ _ _ _ rfl rfl rfl (fun _=>.refl _) (fun _=>.refl _)) rfl rfl rfl (k':=8) rfl ?_
 refine dm 9 ?_
 refine hd_g 46 8 45 true _ (fun hb=>hop_move rfl) rfl rfl rfl rfl pre0 rfl rfl rfl (k':=10) rfl ?_
 refine hd_g 47 8 45 true _ (fun hb=>hop_move rfl) rfl rfl rfl rfl pre0 rfl rfl rfl (k':=11) rfl ?_
 first
 | refine hd_g 48 8 45 true _ (fun hb=>hop_subi rfl rfl rfl (by first | exact Nat.le_of_ble_eq_true rfl | (simp at hb;first | omega | (dsimp only;omega) | (simp <;> omega)) | omega | (dsimp only;omega)) (by first | exact Nat.le_of_ble_eq_true rfl | (simp at hb;first | omega | (dsimp only;omega) | (simp <;> omega)) | omega | (dsimp only;omega))) rfl rfl rfl rfl pre0 rfl rfl rfl (k':=12) rfl ?_
 | refine hd_g 48 8 45 true _ (fun hb=>hop_sub rfl rfl) rfl rfl rfl rfl pre0 rfl rfl rfl (k':=12) rfl ?_
 first
 | refine hd_g 49 8 45 true _ (fun hb=>hop_ia_sl el_22 rfl rfl (by first | exact Nat.le_of_ble_eq_true rfl | (simp at hb;first | omega | (dsimp only;omega) | (simp <;> omega)) | omega | (dsimp only;omega)) (by first | exact Nat.le_of_ble_eq_true rfl | (simp at hb;first | omega | (dsimp only;omega) | (simp <;> omega)) | omega | (dsimp only;omega)) (by first | exact Nat.le_of_ble_eq_true rfl | (simp at hb;first | omega | (dsimp only;omega) | (simp <;> omega)) | omega | (dsimp only;omega))) rfl rfl rfl rfl pre0 rfl rfl rfl (k':=13) rfl ?_
 | refine hd_g 49 8 45 true _ (fun hb=>hol_ia_os el_22 rfl rfl (by first | exact Nat.le_of_ble_eq_true rfl | (simp at hb;first | omega | (dsimp only;omega) | (simp <;> omega)) | omega | (dsimp only;omega)) (by first | exact Nat.le_of_ble_eq_true rfl | (simp at hb;first | omega | (dsimp only;omega) | (simp <;> omega)) | omega | (dsimp only;omega))) rfl rfl rfl rfl (pre1 rfl) rfl rfl rfl (k':=13) rfl ?_
 first
 | refine hd_g 50 8 45 true _ (fun hb=>hol_load ty_71 rfl (by first | exact Nat.le_of_ble_eq_true rfl | (simp at hb;first | omega | (dsimp only;omega) | (simp <;> omega)) | omega | (dsimp only;omega)) (by first | exact Nat.le_of_ble_eq_true rfl | (simp at hb;first | omega | (dsimp only;omega) | (simp <;> omega)) | omega | (dsimp only;omega)) (fun h=>(by first | rfl | cases h))) rfl rfl rfl rfl (pre1 rfl) rfl rfl rfl (k':=14) rfl ?_
 | refine hd_g 50 8 45 true _ (fun hb=>hop_load_fp ty_71 rfl (by first | exact Nat.le_of_ble_eq_true rfl | (simp at hb;first | omega | (dsimp only;omega) | (simp <;> omega)) | omega | (dsimp only;omega)) (fun h=>(by first | rfl | cases h))) rfl rfl rfl rfl pre0 rfl rfl rfl (k':=14) rfl ?_
 refine hd_g 51 8 45 true _ (fun hb=>hop_move rfl) rfl rfl rfl rfl pre0 rfl rfl rfl (k':=15) rfl ?_
 refine hd_g 52 8 45 true _ (fun hb=>hop_move rfl) rfl rfl rfl rfl pre0 rfl rfl rfl (k':=16) rfl ?_
 first
 | refine hd_g 53 8 45 true _ (fun hb=>hop_subi rfl rfl rfl (by first | exact Nat.le_of_ble_eq_true rfl | (simp at hb;first | omega | (dsimp only;omega) | (simp <;> omega)) | omega | (dsimp only;omega)) (by first | exact Nat.le_of_ble_eq_true rfl | (simp at hb;first | omega | (dsimp only;omega) | (simp <;> omega)) | omega | (dsimp only;omega))) rfl rfl rfl rfl pre0 rfl rfl rfl (k':=17) rfl ?_
 | refine hd_g 53 8 45 true _ (fun hb=>hop_sub rfl rfl) rfl rfl rfl rfl pre0 rfl rfl rfl (k':=17) rfl ?_
 first
 | refine hd_g 54 8 45 true _ (fun hb=>hop_ia_sl el_22 rfl rfl (by first | exact Nat.le_of_ble_eq_true rfl | (simp at hb;first | omega | (dsimp only;omega) | (simp <;> omega)) | omega | (dsimp only;omega)) (by first | exact Nat.le_of_ble_eq_true rfl | (simp at hb;first | omega | (dsimp only;omega) | (simp <;> omega)) | omega | (dsimp only;omega)) (by first | exact Nat.le_of_ble_eq_true rfl | (simp at hb;first | omega | (dsimp only;omega) | (simp <;> omega)) | omega | (dsimp only;omega))) rfl rfl rfl rfl pre0 rfl rfl rfl (k':=18) rfl ?_
 | refine hd_g 54 8 45 true _ (fun hb=>hol_ia_os el_22 rfl rfl (by first | exact Nat.le_of_ble_eq_true rfl | (simp at hb;first | omega | (dsimp only;omega) | (simp <;> omega)) | omega | (dsimp only;omega)) (by first | exact Nat.le_of_ble_eq_true rfl | (simp at hb;first | omega | (dsimp only;omega) | (simp <;> omega)) | omega | (dsimp only;omega))) rfl rfl rfl rfl (pre1 rfl) rfl rfl rfl (k':=18) rfl ?_
 first
 | refine hd_g 55 8 45 true _ (fun hb=>hol_load ty_71 rfl (by first | exact Nat.le_of_ble_eq_true rfl | (simp at hb;first | omega | (dsimp only;omega) | (simp <;> omega)) | omega | (dsimp only;omega)) (by first | exact Nat.le_of_ble_eq_true rfl | (simp at hb;first | omega | (dsimp only;omega) | (simp <;> omega)) | omega | (dsimp only;omega)) (fun h=>(by first | rfl | cases h))) rfl rfl rfl rfl (pre1 rfl) rfl rfl rfl (k':=19) rfl ?_
 | refine hd_g 55 8 45 true _ (fun hb=>hop_load_fp ty_71 rfl (by first | exact Nat.le_of_ble_eq_true rfl | (simp at hb;first | omega | (dsimp only;omega) | (simp <;> omega)) | omega | (dsimp only;omega)) (fun h=>(by first | rfl | cases h))) rfl rfl rfl rfl pre0 rfl rfl rfl (k':=19) rfl ?_
 refine hd_g 56 8 45 true _ (fun hb=>hop_eql_tok _ _ rfl rfl rfl (fun _ _=>rfl) (fun _ _=>rfl)) rfl rfl rfl rfl pre0 rfl rfl rfl (k':=20) rfl ?_
 first
 | refine hd_p 57 (hstep_and _ _ rfl rfl rfl) rfl rfl rfl (k':=21) rfl ?_
 | refine hd_p 57 (hstep_or _ _ rfl rfl rfl) rfl rfl rfl (k':=21) rfl ?_
 | refine hd_p 57 (hstep_pick _ _ _ _ rfl rfl rfl (fun _=>.refl _) (fun _=>.refl _)) rfl rfl rfl (k':=21) rfl ?_
 refine hd_nil kr kr (c':=c+21) rfl ?_
 refine h14 _ ?_
 refine wc (fun hc2=>?_) (fun hc2=>?_)
 ·have hr2:=hc2;(try simp only [hcs,Int.reduceToNat] at hc2)
  have hy:froV a b+n < a.length∧froV a b+n < b.length∧a.getD (a.length - 1 - n) tok0=b.getD (b.length - 1 - n) tok0:=(by obtain ⟨⟨h1,h2⟩,h3⟩:=hc2;rw [show ((a.length:Int) - n - 1).toNat=a.length - 1 - n by omega,show ((b.length:Int) - n - 1).toNat=b.length - 1 - n by omega] at h3;exact ⟨by omega,by omega,h3⟩)
  refine hw_skip<|h13 _<|hw_block<|srg fun N h15=>sm ?_
  first
  | refine hq_ 59 (hop_subi rfl rfl rfl (by first | exact Nat.le_of_ble_eq_true rfl | omega | (dsimp only;omega) | (simp <;> omega)) (by first | exact Nat.le_of_ble_eq_true rfl | omega | (dsimp only;omega) | (simp <;> omega))) rfl rfl pre0 rfl rfl ?_
  | refine hq_ 59 (hop_sub rfl rfl) rfl rfl pre0 rfl rfl ?_
  refine sa<|snl h15<|hw_region<|sm ?_
  first
  | refine hq_ 61 (hop_subi rfl rfl rfl (by first | exact Nat.le_of_ble_eq_true rfl | omega | (dsimp only;omega) | (simp <;> omega)) (by first | exact Nat.le_of_ble_eq_true rfl | omega | (dsimp only;omega) | (simp <;> omega))) rfl rfl pre0 rfl rfl ?_
  | refine hq_ 61 (hop_sub rfl rfl) rfl rfl pre0 rfl rfl ?_
  refine sa<|hseq_nil<|hq_block ?_
  exact hL12 (n+1) _ _ (by (try dsimp only);exact ⟨by omega,by omega,by rw [←hs];exact (bk_yes hy).symm⟩) (by (try dsimp only);omega) (hsub_of rfl (Nat.le_refl _) (tsr rfl (tsr rfl (tsr rfl (tsr rfl (TmSub.cons rfl (sb_intV om) (TmSub.cons rfl (sb_intV om) TmSub.nil)))))) hsa)
 have hr2:=hc2;(try simp only [hcs,Int.reduceToNat] at hc2)
 have hy:¬ (froV a b+n < a.length∧froV a b+n < b.length∧a.getD (a.length - 1 - n) tok0=b.getD (b.length - 1 - n) tok0):=fun h9=>(by obtain ⟨h1,h2,h3⟩:=h9;rw [show ((a.length:Int) - n - 1).toNat=a.length - 1 - n by omega,show ((b.length:Int) - n - 1).toNat=b.length - 1 - n by omega] at hc2;simp only [Bool.and_eq_false_iff,decide_eq_false_iff_not] at hc2;rcases hc2 with (h | h) | h <;> first | exact h h3 | omega);obtain rfl:n=bk a b (froV a b) 0:=(by rw [←hs,bk_no hy])
 refine hw_exit ?_
 refine hq_then_exit<|hq_then_exit<|hq_block_here<|h11 _<|srg fun N h16=>sm<|sm<|sm<|sm<|sm ?_
 first
 | refine hq_ 67 (hop_cut_sl el_22 rfl (.inr ⟨_,_,rfl,rfl⟩) (.inr ⟨_,_,rfl,rfl⟩) (by first | exact Nat.le_of_ble_eq_true rfl | omega | (dsimp only;omega) | (simp <;> omega)) (by first | exact Nat.le_of_ble_eq_true rfl | omega | (dsimp only;omega) | (simp <;> omega)) (by first | exact Nat.le_of_ble_eq_true rfl | omega | (dsimp only;omega) | (simp <;> omega))) rfl rfl pre0 rfl rfl ?_
 | refine hq_ 67 (hol_cut_os el_22 rfl (.inr ⟨_,_,rfl,rfl⟩) (.inr ⟨_,_,rfl,rfl⟩) (by first | exact Nat.le_of_ble_eq_true rfl | omega | (dsimp only;omega) | (simp <;> omega)) (by first | exact Nat.le_of_ble_eq_true rfl | omega | (dsimp only;omega) | (simp <;> omega)) (by first | exact Nat.le_of_ble_eq_true rfl | omega | (dsimp only;omega) | (simp <;> omega))) rfl rfl (pre1 rfl) rfl rfl ?_
 refine s0 (hop_call0 (xs:=[_]) (cloneT_h ((b.take (b.length - bk a b (froV a b) 0)).drop (froV a b)) (by rw [List.length_drop,List.length_take];omega)) ⟨rfl,trivial⟩ ⟨(fz_cut (by rw [List.length_drop,List.length_take];omega) (fun i j hi hj=>by rw [cut_get om];rfl)),trivial⟩) ?_
 refine s0 (hop_build (hs:=[(0,1,_),(1,1,_),(2,1,_),(8,1,_)]) st_26 rfl rfl ⟨rfl,rfl,rfl,rfl,rfl,⟨rfl,rfl,rfl,rfl,rfl,⟨rfl,rfl,rfl,rfl,rfl,⟨rfl,rfl,rfl,rfl,rfl,trivial⟩⟩⟩⟩) ?_
 first
 | refine hm_s1 (hol_storeW ty_26 rfl rfl rfl rfl) rfl rfl (pre1 rfl) (c':=c+22) rfl ?_
 | refine hm_s1 (hol_store ty_26 rfl rfl rfl rfl (by first | exact Nat.le_of_ble_eq_true rfl | omega | (dsimp only;omega) | (simp <;> omega)) (by first | exact Nat.le_of_ble_eq_true rfl | omega | (dsimp only;omega) | (simp <;> omega)) (by first | exact Nat.le_of_ble_eq_true rfl | omega | (dsimp only;omega) | (simp <;> omega))) rfl rfl (pre1 rfl) (c':=c+22) rfl ?_
 refine sa<|snl h16<|hw_ret ?_
 refine hq_ret2 rfl (rvl_cell rfl rfl ty_26 rqc rfl rfl) (rval_tmp rfl) [] rfl pre0 ?_
 rw [if_neg hab,decide_eq_false hab];exact fz_t2 (fz_agg10 fzc fzc (by exact (fz_intV (show _=((a.length - bk a b (froV a b) 0:Nat):Int) by omega))) fzc fzc fzc fzc fzc (by exact fz_toks _) fzc) (.imm _)
end Go.Proofs.Ytkcfhciffdnmmaa
