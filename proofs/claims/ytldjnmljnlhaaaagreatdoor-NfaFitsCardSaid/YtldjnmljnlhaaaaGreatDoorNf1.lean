/-
  nfa.New.
-/
import Derived.Test.YtldjnmljnlhaaaaGreatDoorNb11
import Derived.Test.YtldjnmljnlhaaaaGreatDoorNfaV
import Derived.Test.YtldjnmljnlhaaaaGreatDoorHbu
namespace Go.Proofs.YtldjnmljnlhaaaaGreatDoor
set_option linter.unusedSimpArgs false
set_option linter.unusedVariables false
set_option maxRecDepth 100000
set_option maxHeartbeats 1000000
open Go.RowKit
def netQ (w:Nat) (on:List Bag) (β:Nat→Bag) (p:Pc):Nat→HV:=fun j=>match j with
 | 0=>.sl 4 w (rowF (onF on)) | 1=>.sl 4 w (rowF β)
 | 2=>bagF p.first 0 | 3=>bagF p.first 1 | 4=>bagF p.first 2 | 5=>bagF p.first 3
 | 6=>bagF p.ends 0 | 7=>bagF p.ends 1 | 8=>bagF p.ends 2 | 9=>bagF p.ends 3
 | _=>boolV p.empty
@[reducible] def netP (w:Nat) (on:List Bag) (β:Nat→Bag) (p:Pc):HV:=.fp 11 (netQ w on β p)
@[reducible] def noNet (e:Int):HV:=t2 (.imm (.pointer none)) (intV e)
@[reducible] def treeNet (m:List UInt8→Bag) (t:T):HV:=netP (0+t.w) (lay m t 0).on (links (fun _=>Bag.zero) (lay m t 0).lk) (lay m t 0).pc
theorem j11 {P:Nat→Prop} (h0:P 0) (h1:P 1) (h2:P 2) (h3:P 3) (h4:P 4) (h5:P 5) (h6:P 6) (h7:P 7) (h8:P 8) (h9:P 9) (h10:P 10):∀ j,j < 11→P j:=fun j hj=>by
 match j,hj with | 0,_=>exact h0 | 1,_=>exact h1 | 2,_=>exact h2 | 3,_=>exact h3 | 4,_=>exact h4 | 5,_=>exact h5 | 6,_=>exact h6 | 7,_=>exact h7 | 8,_=>exact h8 | 9,_=>exact h9 | 10,_=>exact h10
def noneV (m:List UInt8→Bag) (e:List Pt):Bool:=(namesV e).any (fun s=>decide (m s=Bag.zero))
inductive NewIs (m:List UInt8→Bag) (e:List Pt):HV→Prop
 | bad (h:rightV e=false):NewIs m e (noNet 1)
 | none (h:rightV e=true) (h2:noneV m e=true):NewIs m e (noNet 6)
 | nil (h:e=[]):NewIs m e (t2 (netP 0 [] (fun _=>Bag.zero) ⟨Bag.zero,Bag.zero,true⟩) (intV 0))
 | full (t:T) (hok:t.ok=true) (h:e=T.flat 0 t) (h2:noneV m e=false) (hw:256 < t.w):NewIs m e (noNet 7)
 | fine (t:T) (hok:t.ok=true) (h:e=T.flat 0 t) (h2:noneV m e=false) (hw:t.w≤256):NewIs m e (t2 (treeNet m t) (intV 0))
theorem right_nil:rightV []=true:=by decide +kernel
theorem newIs_bad {m:List UInt8→Bag} {e:List Pt} {r:HV} (hr:NewIs m e r) (h:rightV e=false):r=noNet 1:=by
 cases hr with
 | bad=>rfl
 | none h' _=>rw [h] at h';cases h'
 | nil h'=>subst h';rw [right_nil] at h;cases h
 | full t hok h'=>subst h';rw [right_of_ok hok] at h;cases h
 | fine t hok h'=>subst h';rw [right_of_ok hok] at h;cases h
theorem newIs_none {m:List UInt8→Bag} {e:List Pt} {r:HV} (hr:NewIs m e r) (h:rightV e=true) (h2:noneV m e=true):r=noNet 6:=by
 cases hr with
 | bad h'=>rw [h] at h';cases h'
 | none=>rfl
 | nil h'=>subst h';cases h2
 | full t _ _ h'=>rw [h2] at h';cases h'
 | fine t _ _ h'=>rw [h2] at h';cases h'
theorem newIs_nil {m:List UInt8→Bag} {r:HV} (hr:NewIs m [] r):r=t2 (netP 0 [] (fun _=>Bag.zero) ⟨Bag.zero,Bag.zero,true⟩) (intV 0):=by
 generalize he:([]:List Pt)=e at hr
 cases hr with
 | bad h'=>subst he;rw [right_nil] at h';cases h'
 | none _ h'=>subst he;cases h'
 | nil=>rfl
 | full t _ h'=>subst he;have:=congrArg List.length h';rw [T.flat_len] at this;have:=t.size_pos;simp at *;omega
 | fine t _ h'=>subst he;have:=congrArg List.length h';rw [T.flat_len] at this;have:=t.size_pos;simp at *;omega
theorem newIs_tree {m:List UInt8→Bag} {e:List Pt} {r:HV} (hr:NewIs m e r) (h:rightV e=true) (h2:noneV m e=false) (h3:e.length≠0):∃ t:T,t.ok=true∧e=T.flat 0 t∧((256 < t.w∧r=noNet 7)∨(t.w≤256∧r=t2 (treeNet m t) (intV 0))):=by
 cases hr with
 | bad h'=>rw [h] at h';cases h'
 | none _ h'=>rw [h2] at h';cases h'
 | nil h'=>subst h';exact absurd rfl h3
 | full t hok h' _ hw=>exact ⟨t,hok,h',.inl ⟨hw,rfl⟩⟩
 | fine t hok h' _ hw=>exact ⟨t,hok,h',.inr ⟨hw,rfl⟩⟩
theorem fz_rowo {sh:List (Nat×HObj)} {id g n n':Nat} {γ γ':Nat→Bag} (ho:(id,rowO g n γ)∈sh) (hn:n'=n) (h:∀ i,i < n→γ i=γ' i):Fz sh (.os id g 0 n') (.sl 4 n' (rowF γ')):=by
 subst hn
 refine Fz.os id g 0 n' _ _ ho rfl (by show 0+n'≤n';omega) (fun i j hi hj=>?_)
 show Fz sh (bagF (γ (0+i)) j) (bagF (γ' i) j)
 rw [Nat.zero_add,h i hi];exact .imm _
theorem names_from:∀ (l:List Pt) (o:List (List UInt8)) (s:List UInt8),s∈l.foldl addN o→s∈o∨∃ x∈l,x.kind=1∧x.name=s
  | [],o,s,h=>.inl h
  | x :: l, o, s, h => by
    rcases names_from l (addN o x) s h with h' | ⟨y,hy,h1,h2⟩
    · unfold addN at h'
      split at h'
      · rename_i hk
        rcases List.mem_append.1 h' with h'' | h''
        · exact .inl h''
        · rw [List.mem_singleton] at h'';exact .inr ⟨x,List.mem_cons_self ..,hk.1,h''.symm⟩
      · exact .inl h'
    · exact .inr ⟨y,List.mem_cons_of_mem _ hy,h1,h2⟩
theorem names_ok {e:List Pt} (hR:rightV e=true) (s:List UInt8) (hs:s∈namesV e):nameV s=true:=by
 rcases names_from e [] s hs with h | ⟨x,hx,hk,rfl⟩
 ·cases h
 ·rcases rightV_tree hR with rfl | ⟨t,hok,rfl⟩
  ·cases hx
  ·have:=flat_fine t 0 hok x hx
   unfold aloneV at this
   simp [hk] at this
   simp [this]
section
variable {ov:Nat→Option HV} {g:Nat} {d:Option Tmp} {ty:TypeId} {pos:String} {af:Array Edge} {gd:Option (Nat×Bool)} {T yT:TypeId} {x y:Operand}
theorem hop_eql_fnil {f:Fn} {n:Nat} {caps:Nat→HV} (hT:T=35) (h1:ovl ov x=some (.fn f n caps)) (h2:ovl ov y=some (.imm .nilFunc)) :
    HOp Tryz.prog ⟨d,.binOp .eql T x y yT,ty,pos,af,gd⟩ ov g [] (.imm (.bool false)) [] :=
  hop_pure fun w E ρ hr=>by
    subst hT
    have e1:=hr x _ (by simp [Op.operands]) h1
    have e2:=Rep.imm_inv (hr y _ (by simp [Op.operands]) h2)
    generalize hv:ρ x=v at e1
    cases e1 with
    | fn _ vcs _ _ vs hn hvv hrr =>
      refine ⟨_,?_,.imm _⟩
      have hg:(eqGuard .eql 35 x y (.func f #[] vcs) .nilFunc).run Tryz.prog w=.ok () w:=by kernel_rfl
      have hT:(binOp .eql 35 (.func f #[] vcs) .nilFunc).run Tryz.prog w=.ok (.bool false) w:=by kernel_rfl
      simp only [execOp,hv,e2,Sem.run_bind,hg,Result.andThen_ok,hT,Sem.run_pure]
end
section
variable {mf:FuncId} {mk:Nat} {mcaps:Nat→HV} {mcs:List HV} {m:List UInt8→Bag}
theorem new_h (M:MeanOk mf mk mcaps mcs m) (e:List Pt) (he:PtB e) (r:HV) (hr:NewIs m e r):HPure Tryz.prog 9 [ptsV e,.fn (.func mf) mk mcaps] r:=by
 have hel:=he.1
 refine hpure_of Tryz.func9 rfl kr _ _ _ rfl 55 rfl rfl (fun w F=>?_)
 refine srg fun N h1=>?_
 refine hm_1 3 (hop_box (id:=3) (sz:=1) rfl rfl rfl (nb rfl) (nb rfl)) rfl rfl pre0 rfl rfl (c':=1) rfl ?_
 refine sa<|sa<|snl h1<|hw_seq fun Nh2 h2=>srg fun N h3=>sm ?_
 refine s0 (hop_call0 (xs:=[_]) (right_h e he) ⟨rfl,trivial⟩ ⟨fe,trivial⟩) ?_
 refine s0 (hop_not rfl) ?_
 refine sm ?_
 refine hq_g 12 3 11 false _ (fun hb=>hol_load ty_35 rfl (nb rfl) (nb rfl) rq) rfl rfl rfl rfl (pre1 rfl) rfl rfl rfl ?_
 refine stg 11 (fun hb=>hop_eql_fnil rfl rfl rfl) rfl rfl rfl rfl rfl ?_
 refine hq_p 14 (hstep_and _ _ rfl rfl rfl) rfl rfl rfl ?_
 refine nu ?_
 refine h3 _ ?_
 refine wc (fun hc0=>?_) (fun hc0=>?_)
 ·have hr0:=hc0;(try simp only [hcs,Int.reduceToNat] at hc0)
  have hR:rightV e=false:=(by simpa using hr0)
  refine srg fun N h4=>sa<|sa<|snl h4<|hw_ret<|hq_then_ret ?_
  refine hq_ret2 rfl (rval_tmp rfl) (rval_tmp rfl) [] rfl pre0 ?_
  rw [newIs_bad hr hR];exact .tup _ _ _ (fun i hi=>by match i,hi with | 0,_=>exact .imm _ | 1,_=>exact .imm _)
 have hr0:=hc0;(try simp only [hcs,Int.reduceToNat] at hc0)
 have hR:rightV e=true:=(by simpa using hr0)
 refine hw_skip<|h2 _<|hw_seq fun Nh5 h5=>srg fun N h6=>sm ?_
 refine s0 (hop_call0 (xs:=[_]) (names_h e he.1) ⟨rfl,trivial⟩ ⟨fe,trivial⟩) ?_
 refine s0 (hop_makeFunc (hs:=[_]) ⟨rfl,trivial⟩) ?_
 refine (hsub_shr 17 [(3,_)] rfl (preC rfl pre0) rfl ((show Fz _ _ (.fn (.func 35) 1 (fun i=>[HV.fp 1 (fun _=>.fn (.func mf) mk mcaps)].getD i default)) from .fn _ _ _ _ (fun i hi=>by obtain rfl:i=0:=om;exact .pt 3 _ 0 0 1 _ _ (.head _) rfl (Nat.lt_succ_self 0) (Nat.le_refl _) (fun j hj=>M.ff _))))).seq ?_
 refine s0 (hop_call0 (xs:=[_,_]) (containsf_h 35 1 (fun i=>[HV.fp 1 (fun _=>.fn (.func mf) mk mcaps)].getD i default) [.fp 1 (fun _=>.fn (.func mf) mk mcaps)] (fun s=>decide (m s=Bag.zero)) rfl (fun i hi=>by obtain rfl:i=0:=om;rfl) ⟨.fp _ _ (Nat.le_refl _) _ _ (fun j hj=>M.ff _),trivial⟩ (fun sh=>.fn _ _ _ _ (fun i hi=>by obtain rfl:i=0:=om;exact .fp _ _ (Nat.le_refl _) _ _ (fun j hj=>M.ff _))) (namesV e) (by have:=names_len (e:=e) e.length;rw [List.take_length] at this;omega) (fun s hs=>new1_h M s (names_ok hR s hs))) ⟨rfl,⟨rfl,trivial⟩⟩ ⟨fe,⟨(.fn _ _ _ _ (fun i hi=>by obtain rfl:i=0:=om;exact .fp _ _ (Nat.le_refl _) _ _ (fun j hj=>M.ff _))),trivial⟩⟩) ?_
 refine snl h6 ?_
 refine wc (fun hc1=>?_) (fun hc1=>?_)
 ·have hr1:=hc1;(try simp only [hcs,Int.reduceToNat] at hc1)
  refine srg fun N h7=>sa<|sa<|snl h7<|hw_ret<|hq_then_ret ?_
  refine hq_ret2 rfl (rval_tmp rfl) (rval_tmp rfl) [] rfl pre0 ?_
  rw [newIs_none hr hR hr1];exact .tup _ _ _ (fun i hi=>by match i,hi with | 0,_=>exact .imm _ | 1,_=>exact .imm _)
 have hr1:=hc1;(try simp only [hcs,Int.reduceToNat] at hc1)
 refine hw_skip<|h5 _<|hw_seq fun Nh8 h8=>srg fun N h9=>sm ?_
 refine s0 (hnl el_24) ?_
 refine s0 hqi ?_
 refine snl h9 ?_
 refine wc (fun hc2=>?_) (fun hc2=>?_)
 ·have hr2:=hc2;(try simp only [hcs,Int.reduceToNat] at hc2)
  obtain rfl:e=[]:=(by apply List.length_eq_zero_iff.1;omega)
  refine srg fun N h10=>?_
  refine s0 (hop_build (hs:=[(10,1,_)]) st_71 rfl rfl ⟨rfl,rfl,rfl,rfl,rfl,trivial⟩) ?_
  refine hm_1 23 (hop_box (id:=23) (sz:=11) rfl rfl rfl (nb rfl) (nb rfl)) rfl rfl pre0 rfl rfl (c':=2) rfl ?_
  refine sa<|sa<|snl h10<|hw_ret<|hq_then_ret ?_
  refine hq_ret2 rfl (rval_tmp rfl) (rval_tmp rfl) [(23,_)] rfl (preC rfl pre0) ?_
  rw [newIs_nil hr];exact .tup _ _ _ (fun i hi=>by match i,hi with | 0,_=>exact .pt 23 _ 0 0 11 _ _ (.head _) rfl (Nat.lt_succ_self 0) (Nat.le_refl _) (by exact j11 (.nil 0 4 _ (by decide) none) (.nil 0 4 _ (by decide) none) (.imm _) (.imm _) (.imm _) (.imm _) (.imm _) (.imm _) (.imm _) (.imm _) (.imm _)) | 1,_=>exact .imm _)
 have hr2:=hc2;(try simp only [hcs,Int.reduceToNat] at hc2)
 obtain ⟨t,hok,het,hw⟩:=newIs_tree hr hR hr1 om;have hat:AtP e 0 (T.flat 0 t):=⟨[],[],by simp [het],rfl⟩;have hsz:e.length=t.size:=(by rw [het];exact T.flat_len 0 t);have hps:=t.size_pos
 refine hw_skip<|h8 _<|hw_seq fun Nh11 h11=>srg fun N h12=>sm<|sm ?_
 refine s0 (hnl el_24) ?_
 refine s0 (HOp.val (v':=intV ((0+t.size - 1:Nat):Int)) (hop_subi rfl rfl rfl (by omega) (by omega)) (congrArg intV (by omega))) ?_
 refine s0 (hop_call0 (xs:=[_,_]) (places_h e he.1 t 0 hok hat) ⟨rfl,⟨rfl,trivial⟩⟩ ⟨fe,⟨fe,trivial⟩⟩) ?_
 refine s0 (hop_gtr rfl rfl) ?_
 refine snl h12 ?_
 refine wc (fun hc3=>?_) (fun hc3=>?_)
 ·have hr3:=hc3;(try simp only [hcs,Int.reduceToNat] at hc3)
  refine srg fun N h13=>sa<|sa<|snl h13<|hw_ret<|hq_then_ret ?_
  refine hq_ret2 rfl (rval_tmp rfl) (rval_tmp rfl) [] rfl pre0 ?_
  rcases hw with ⟨_,rfl⟩ | ⟨hw,_⟩;exact .tup _ _ _ (fun i hi=>by match i,hi with | 0,_=>exact .imm _ | 1,_=>exact .imm _);(exfalso;unfold wMin at hc3;rw [if_pos om] at hc3;omega)
 have hr3:=hc3;(try simp only [hcs,Int.reduceToNat] at hc3)
 have hww:t.w≤256∧r=t2 (treeNet m t) (intV 0):=(by rcases hw with ⟨hw,_⟩ | hw;(exfalso;unfold wMin at hc3;split at hc3 <;> omega);exact hw);obtain ⟨hwl,rfl⟩:=hww
 refine hw_skip<|h11 _<|srg fun N h14=>?_
 refine s0 (hop_build (hs:=[]) st_71 rfl rfl trivial) ?_
 refine hm_1 31 (hop_box (id:=9001) (sz:=11) rfl rfl rfl (by decide) (by decide)) rfl rfl pre0 rfl rfl (c':=2) rfl ?_
 refine sa<|snl h14<|hw_seq fun Nh15 h15=>?_
 refine (hsub_ownc 9001 0 9002 4 33 (rowF (onF [])) (netF (.os 9002 2 0 0) (.imm (.slice none 0 0)) Bag.zero Bag.zero false) rfl rfl (by exact j11 (.inl ⟨rfl,rfl⟩) (.inr rfl) (.inr rfl) (.inr rfl) (.inr rfl) (.inr rfl) (.inr rfl) (.inr rfl) (.inr rfl) (.inr rfl) (.inr rfl)) (by decide) (by decide) (c':=3) rfl).wp ?_;refine (hsub_ownc 9001 1 9003 4 33 (rowF (fun _=>Bag.zero)) (netF (.os 9002 2 0 0) (.os 9003 3 0 0) Bag.zero Bag.zero false) rfl rfl (by exact j11 (.inr rfl) (.inl ⟨rfl,rfl⟩) (.inr rfl) (.inr rfl) (.inr rfl) (.inr rfl) (.inr rfl) (.inr rfl) (.inr rfl) (.inr rfl) (.inr rfl)) (by decide) (by decide) (c':=4) rfl).wp ?_
 refine hw_region<|sm<|sm<|sm ?_
 refine s0 (hnl el_24) ?_
 refine s0 (HOp.val (v':=intV ((0+t.size - 1:Nat):Int)) (hop_subi rfl rfl rfl (by omega) (by omega)) (congrArg intV (by omega))) ?_
 refine sl ty_35 ?_
 refine hf_callR 38 (xs:=[_,_,_,_]) (pre:=[(9001,_),(9002,_),(9003,_)]) (layN_h M e he.1 t 0 hok hat _ 1 2 3 0 [] (fun _=>Bag.zero) rfl om (fun _=>Bag.zero_ok) (fun _ _ _=>rfl)) ⟨rfl,⟨rfl,⟨rfl,⟨rfl,trivial⟩⟩⟩⟩ (preC rfl (preC rfl (preC rfl pre0))) rfl rfl (fun x1 c1 hyy=>?_)
 obtain ⟨y2,y3⟩:=x1
 (try dsimp only)
 refine hm_1 7 (hop_alloc (id:=7) (sz:=9) zc_74 rfl rfl (nb rfl) (nb rfl)) rfl rfl pre0 rfl rfl (c':=c1+1) rfl ?_
 refine sw (c1+2) ty_74 ?_
 refine snl h15<|hw_seq fun Nh16 h16=>hd_start ?_
 refine dm 1 ?_
 refine dm 2 ?_
 refine dm 3 ?_
 refine df 4 fd_74_0 ?_
 refine dl 5 ty_33 ?_
 refine df 6 fd_74_1 ?_
 refine dl 7 ty_33 ?_
 refine df 8 fd_74_2 ?_
 refine dl 9 ty_4 ?_
 refine dk 10 ?_
 refine df 11 fd_71_2 ?_
 refine hd_s1 (hol_store ty_33 rfl rfl rfl rfl (nb rfl) (nb rfl) (nb rfl)) rfl rfl (pre1 rfl) (k':=12) rfl ?_
 refine dk 13 ?_
 refine df 14 fd_71_3 ?_
 refine hd_s1 (hol_store ty_33 rfl rfl rfl rfl (nb rfl) (nb rfl) (nb rfl)) rfl rfl (pre1 rfl) (k':=15) rfl ?_
 refine dk 16 ?_
 refine df 17 fd_71_4 ?_
 refine hd_s1 (hol_store ty_4 rfl rfl rfl rfl (nb rfl) (nb rfl) (nb rfl)) rfl rfl (pre1 rfl) (k':=18) rfl ?_
 refine hd_nil kr kr (c':=c1+20) rfl ?_
 refine h16 _<|hw_seq fun Nh17 h17=>?_
 refine (hsub_ob 9001 ⟨1,1,11,71,0,netF (.os 9002 y2 0 (0+t.w)) (.os 9003 y3 0 (0+t.w)) (lay m t 0).pc.first (lay m t 0).pc.ends (lay m t 0).pc.empty⟩ rfl (by exact OSub.of (fun i j hi hj=>by obtain rfl:i=0:=om;match j,hj with | 0,_=>exact .refl _ | 1,_=>exact .refl _ | 2,_=>exact .refl _ | 3,_=>exact .refl _ | 4,_=>exact .refl _ | 5,_=>exact .refl _ | 6,_=>exact .refl _ | 7,_=>exact .refl _ | 8,_=>exact .refl _ | 9,_=>exact .refl _ | 10,_=>exact .refl _))).wp ?_
 refine hw_region<|sm<|sa<|sa<|snl h17<|hw_ret ?_
 refine hq_ret2 rfl (rval_tmp rfl) (rval_tmp rfl) [(9001,_),(9002,_),(9003,_)] rfl (preC rfl (preC rfl (preC rfl pre0))) ?_
 exact .tup _ _ _ (fun i hi=>by match i,hi with | 0,_=>exact .pt 9001 _ 0 0 11 _ _ (.head _) rfl (Nat.lt_succ_self 0) (Nat.le_refl _) (by exact j11 (fz_rowo (γ':=onF (lay m t 0).on) (.tail _ (.head _)) rfl (fun _ _=>rfl)) (fz_rowo (γ':=links (fun _=>Bag.zero) (lay m t 0).lk) (.tail _ (.tail _ (.head _))) rfl (fun _ _=>rfl)) (.imm _) (.imm _) (.imm _) (.imm _) (.imm _) (.imm _) (.imm _) (.imm _) (.imm _)) | 1,_=>exact .imm _)
end
@[reducible] def MnC (e:List Pt) (b:Nat) (t:T):Prop:=HPure Tryz.prog 11 [ptsV e,intV ((b+t.size - 1:Nat):Int)] (intV (wMin t.w))
theorem wMin_id (n:Nat):(if 257 < wMin n then (257:Int) else wMin n)=wMin n:=by unfold wMin;split <;> split <;> omega
theorem many_one (e:List Pt) (he:e.length≤100000) (b:Nat) (t:T) (hok:t.ok=true) (hat:AtP e b (T.flat b t)) (hkl:t.kidsT.length≤100000)
  (ih:∀ i,i < t.kidsT.length→MnC e (b+T.sizeL (t.kidsT.take i)) (t.kidsT.getD i default)):MnC e b t:=by
 have htop:=at_top hat
 have hps:=t.size_pos
 have hkid:=top_kids b t
 have hrl:=rootsL_len t.kidsT b
 generalize htp:t.top b=p at htop hkid
 have hpk:p.kind=t.kind:=by rw [←htp];exact top_kind b t
 refine hpure_of Tryz.func11 rfl kr _ _ _ rfl 54 rfl rfl (fun w F=>?_)
 refine srg fun N h1=>sa<|snl h1<|srg fun N h2=>sm<|sm ?_
 refine s0 (hix el_22) ?_
 refine s0 (HOp.val (v':=ptH p) (hop_load_fp ty_27 rfl (nb rfl) (fun h=>(by cases h))) (pt_at (by omega) htop.1)) ?_
 refine hm_1 5 (hop_alloc (id:=5) (sz:=5) zc_27 rfl rfl (nb rfl) (nb rfl)) rfl rfl pre0 rfl rfl (c':=1) rfl ?_
 refine sw (2) ty_27 ?_
 refine snl h2<|hw_seq fun Nh3 h3=>srg fun N h4=>?_
 refine sf fd_27_0 ?_
 refine sl ty_3 ?_
 refine s0 hqi ?_
 refine snl h4 ?_
 refine wc (fun hc0=>?_) (fun hc0=>?_)
 ·have hr0:=hc0;(try simp only [hcs,Int.reduceToNat] at hc0)
  refine srg fun N h5=>sa<|snl h5<|hw_ret<|hq_then_ret ?_
  refine hq_ret1 rfl (rval_tmp rfl) [] rfl pre0 ?_
  rw [w_name (by rw [←hpk];exact hc0) hok];exact .imm _
 have hr0:=hc0;(try simp only [hcs,Int.reduceToNat] at hc0)
 refine hw_skip<|h3 _<|srg fun N h6=>sa<|snl h6<|hw_seq fun Nh7 h7=>srg fun N h8=>sa<|snl h8<|hw_block ?_
 refine hw_loopc (α:=Nat) (fun x c=>⟨54,[(0,.v (ptsV e)),(5,.v (.pt 5 0 0 0)),(6,.v (intV (wMin (T.wL (t.kidsT.take x))))),(7,.v (intV x))],[(5,⟨0,1,5,27,0,fun _=>ptF p⟩)],c⟩) (fun x=>x≤t.kidsT.length) (fun x=>t.kidsT.length - x) (0) om (hsub_of rfl (Nat.le_refl _) tsa hsa) (fun i c hx NhL9 hL9=>?_)
 (try dsimp only at hx hL9 ⊢)
 have hm1:=wMin_le (T.wL (t.kidsT.take i))
 refine hw_seq fun Nh10 h10=>srg fun N h11=>sm ?_
 refine sf fd_27_4 ?_
 refine st1 (HOp.val (v':=kidsV p.kids) (hol_load ty_25 rfl (nb rfl) (nb rfl) (fun h=>(by rfl))) (rfl)) rfl rfl rfl ?_
 refine s0 (hnl el_25) ?_
 refine s0 hli ?_
 refine snl h11 ?_
 refine wc (fun hc1=>?_) (fun hc1=>?_)
 ·have hr1:=hc1;(try simp only [hcs,Int.reduceToNat] at hc1)
  have him:i < t.kidsT.length:=(by have h:=hr1;simp [hkid,hrl] at h;omega);have hka:=kids_at' hat him;have hkt:=at_top hka;have hks:=(t.kidsT.getD i default).size_pos;have hroot:=roots_get t.kidsT b i him;have hm2:=wMin_le (t.kidsT.getD i default).w;have hwt:=wL_take t.kidsT i him;have hma:=wMin_add (T.wL (t.kidsT.take i)) (t.kidsT.getD i default).w
  refine hw_skip<|h10 _<|hw_seq fun Nh12 h12=>hw_block<|hw_region<|sm<|sm ?_
  refine sf fd_27_4 ?_
  refine st1 (HOp.val (v':=kidsV p.kids) (hol_load ty_25 rfl (nb rfl) (nb rfl) (fun h=>(by rfl))) (rfl)) rfl rfl rfl ?_
  refine sm ?_
  refine s0 (hix el_25) ?_
  refine s0 (HOp.val (v':=intV ((b+T.sizeL (t.kidsT.take i)+(t.kidsT.getD i default).size - 1:Nat):Int)) (hop_load_fp ty_3 rfl (nb rfl) (fun h=>(by rfl))) (by exact kids_at (i:=i) (by omega) (by rw [hkid,hroot];unfold T.root;omega))) ?_
  refine s0 (hop_call0 (xs:=[_,_]) (ih i him) ⟨rfl,⟨rfl,trivial⟩⟩ ⟨fe,⟨fe,trivial⟩⟩) ?_
  refine s0 hai ?_
  refine s0 (HOp.val (v':=intV (wMin (T.wL (t.kidsT.take (i+1))))) (hop_min rfl rfl) (by rw [hwt,←hma])) ?_
  refine sa<|hseq_nil<|hq_block<|h12 _<|hw_region<|sm ?_
  refine s0 hai ?_
  refine sa<|hseq_nil ?_
  exact hL9 (i+1) _ _ (by (try dsimp only);omega) (by (try dsimp only);omega) (hsub_of rfl (Nat.le_refl _) tsa hsa)
 have hr1:=hc1;(try simp only [hcs,Int.reduceToNat] at hc1)
 have hit:i=t.kidsT.length:=(by have h:=hr1;simp [hkid,hrl] at h;omega);rw [hit,List.take_length] at hm1 ⊢
 refine hw_exit ?_
 refine hq_then_exit<|hq_then_exit<|hq_block_here<|h7 _<|hw_seq fun Nh13 h13=>srg fun N h14=>?_
 refine sf fd_27_0 ?_
 refine sl ty_3 ?_
 refine s0 hqi ?_
 refine sm ?_
 refine stg 35 (fun hb=>hop_fa fd_27_2 rfl) rfl rfl rfl rfl rfl ?_
 refine hq_g 37 3 35 true _ (fun hb=>hol_load ty_3 rfl (nb rfl) (nb rfl) rq) rfl rfl rfl rfl (pre1 rfl) rfl rfl rfl ?_
 refine stg 35 (fun hb=>hop_lss rfl rfl) rfl rfl rfl rfl rfl ?_
 refine hq_p 39 (hstep_and _ _ rfl rfl rfl) rfl rfl rfl ?_
 refine nu ?_
 refine h14 _ ?_
 refine wc (fun hc2=>?_) (fun hc2=>?_)
 ·have hr2:=hc2;(try simp only [hcs,Int.reduceToNat] at hc2)
  have hct:=w_count b (by rw [←hpk];exact hc2.1) hok;rw [htp] at hct;have hmi:=many_int p.low p.high hct.2.1;have hmm:=wMin_mul (T.wL t.kidsT) (manyOf p.low p.high) om;have hmx:(if p.low < 1 then 1 else p.low)=((manyOf p.low p.high:Nat):Int):=(by rw [←hmi,if_pos hc2.2])
  refine hw_region<|sm ?_
  refine sf fd_27_1 ?_
  refine sl ty_3 ?_
  refine s0 (HOp.val (v':=intV ((manyOf p.low p.high:Nat):Int)) (hop_max rfl rfl) (by rw [←hmx])) ?_
  refine s0 (hop_muli rfl rfl rfl om om) ?_
  refine sa<|snl h13<|srg fun N h15=>sm ?_
  refine s0 (hop_min rfl rfl) ?_
  refine sa<|snl h15<|hw_ret ?_
  refine hq_ret1 rfl (rval_tmp rfl) [] rfl pre0 ?_
  rw [hct.1,←hmm.1];exact .imm _
 have hr2:=hc2;(try simp only [hcs,Int.reduceToNat] at hc2)
 refine srg fun N h16=>?_
 refine sf fd_27_0 ?_
 refine sl ty_3 ?_
 refine s0 hqi ?_
 refine snl h16 ?_
 refine wc (fun hc3=>?_) (fun hc3=>?_)
 ·have hr3:=hc3;(try simp only [hcs,Int.reduceToNat] at hc3)
  have hct:=w_count b (by rw [←hpk];exact hc3) hok;rw [htp] at hct;have hmi:=many_int p.low p.high hct.2.1;have hmm:=wMin_mul (T.wL t.kidsT) (manyOf p.low p.high) om;have hmx:p.high=((manyOf p.low p.high:Nat):Int):=(by rw [←hmi,if_neg (fun h=>by have h2:=hr2;simp [hc3,h] at h2)])
  refine hw_region<|sm ?_
  refine sf fd_27_2 ?_
  refine st1 (HOp.val (v':=intV ((manyOf p.low p.high:Nat):Int)) (hol_load ty_3 rfl (nb rfl) (nb rfl) (fun h=>(by rfl))) (by exact congrArg intV hmx)) rfl rfl rfl ?_
  refine s0 (hop_muli rfl rfl rfl om om) ?_
  refine sa<|snl h13<|srg fun N h17=>sm ?_
  refine s0 (hop_min rfl rfl) ?_
  refine sa<|snl h17<|hw_ret ?_
  refine hq_ret1 rfl (rval_tmp rfl) [] rfl pre0 ?_
  rw [hct.1,←hmm.1];exact .imm _
 have hr3:=hc3;(try simp only [hcs,Int.reduceToNat] at hc3)
 have hwm:=w_many (by rw [←hpk];exact hc0) (by rw [←hpk];exact hc3);rw [←hwm] at hm1 ⊢
 refine hw_skip<|h13 _<|srg fun N h18=>sm ?_
 refine s0 (hop_min rfl rfl) ?_
 refine sa<|snl h18<|hw_ret ?_
 refine hq_ret1 rfl (rval_tmp rfl) [] rfl pre0 ?_
 rw [wMin_id];exact .imm _
mutual
theorem manyT_h (e:List Pt) (he:e.length≤100000):∀ (t:T) (b:Nat),t.ok=true→AtP e b (T.flat b t)→MnC e b t
  | .name s,b,hok,hat=>many_one e he b (.name s) hok hat (Nat.zero_le _) (fun i hi=>absurd hi (Nat.not_lt_zero _))
  | .times lo hi t, b, hok, hat => by
    have hok':t.ok=true:=by simp only [T.ok,Bool.and_eq_true] at hok;exact hok.2
    refine many_one e he b (.times lo hi t) hok hat (by simp [T.kidsT]) (fun i hi=>?_)
    obtain rfl:i=0:=by simpa [T.kidsT] using hi
    have:=manyT_h e he t b hok' (by simp only [T.flat] at hat;exact atP_left hat)
    simpa [T.kidsT,T.sizeL] using this
  | .many k ts, b, hok, hat => by
    have hok':T.okL ts=true:=by simp only [T.ok,Bool.and_eq_true] at hok;exact hok.2
    have hkl:(T.many k ts).kidsT.length≤100000:=by
      have:=kids_few2 (t:=.many k ts);have:=(at_top hat).2;omega
    exact many_one e he b (.many k ts) hok hat hkl (fun i hi=>manyL_h e he ts hok' i hi _ (kids_at' hat hi))
theorem manyL_h (e:List Pt) (he:e.length≤100000):∀ ts:List T,T.okL ts=true→∀ i,i < ts.length→∀ b,AtP e b (T.flat b (ts.getD i default))→MnC e b (ts.getD i default)
  | [],_,i,hi=>absurd hi (Nat.not_lt_zero _)
  | t :: ts, hok, i, hi => fun b hat => by
    simp only [T.okL,Bool.and_eq_true] at hok
    cases i with
    | zero=>exact manyT_h e he t b hok.1 hat
    | succ i=>exact manyL_h e he ts hok.2 i (by simpa using hi) b (by simpa using hat)
end
section
variable {ov:Nat→Option HV} {g:Nat} {d:Option Tmp} {ty:TypeId} {pos:String} {af:Array Edge} {gd:Option (Nat×Bool)} {T yT:TypeId} {x y:Operand}
theorem hop_eql_fp {n:Nat} {f:Nat→HV} (hT:T=36) (h1:ovl ov x=some (.fp n f)) (h2:ovl ov y=some (.imm (.pointer none))) :
    HOp Tryz.prog ⟨d,.binOp .eql T x y yT,ty,pos,af,gd⟩ ov g [] (.imm (.bool false)) [] :=
  hop_pure fun w E ρ hr=>by
    subst hT
    have e2:=Rep.imm_inv (hr y _ (by simp [Op.operands]) h2)
    have e1:=hr x _ (by simp [Op.operands]) h1
    generalize hv:ρ x=v at e1
    cases e1 with
    | fp b o _ _ vs _ _ =>
      refine ⟨_,?_,.imm _⟩
      have hg:(eqGuard .eql 36 x y (.pointer (some ⟨b,o,none⟩)) (.pointer none)).run Tryz.prog w=.ok () w:=by kernel_rfl
      have hT:(binOp .eql 36 (.pointer (some ⟨b,o,none⟩)) (.pointer none)).run Tryz.prog w=.ok (.bool false) w:=by kernel_rfl
      simp only [execOp,hv,e2,Sem.run_bind,hg,Result.andThen_ok,hT,Sem.run_pure]
theorem hop_neq_fp {n:Nat} {f:Nat→HV} (hT:T=36) (h1:ovl ov x=some (.fp n f)) (h2:ovl ov y=some (.imm (.pointer none))) :
    HOp Tryz.prog ⟨d,.binOp .neq T x y yT,ty,pos,af,gd⟩ ov g [] (.imm (.bool true)) [] :=
  hop_pure fun w E ρ hr=>by
    subst hT
    have e2:=Rep.imm_inv (hr y _ (by simp [Op.operands]) h2)
    have e1:=hr x _ (by simp [Op.operands]) h1
    generalize hv:ρ x=v at e1
    cases e1 with
    | fp b o _ _ vs _ _ =>
      refine ⟨_,?_,.imm _⟩
      have hg:(eqGuard .neq 36 x y (.pointer (some ⟨b,o,none⟩)) (.pointer none)).run Tryz.prog w=.ok () w:=by kernel_rfl
      have hT:(binOp .neq 36 (.pointer (some ⟨b,o,none⟩)) (.pointer none)).run Tryz.prog w=.ok (.bool true) w:=by kernel_rfl
      simp only [execOp,hv,e2,Sem.run_bind,hg,Result.andThen_ok,hT,Sem.run_pure]
end
theorem nplaces_h (wd:Nat) (on:List Bag) (β:Nat→Bag) (p:Pc) (hw:wd≤1000):HPure Tryz.prog 16 [netP wd on β p] (intV (wd:Int)):=by
 refine hpure_of Tryz.func16 rfl kr _ _ _ rfl 10 rfl rfl (fun w F=>?_)
 refine srg fun N h1=>sa<|snl h1<|hw_seq fun Nh2 h2=>srg fun N h3=>sm ?_
 refine s0 (hop_eql_fp rfl rfl rfl) ?_
 refine snl h3 ?_
 refine wc (fun hc0=>?_) (fun hc0=>?_)
 ·have hr0:=hc0;(try simp only [hcs,Int.reduceToNat] at hc0)
  exfalso;simp at hr0
 have hr0:=hc0;(try simp only [hcs,Int.reduceToNat] at hc0)
 refine hw_skip<|h2 _<|srg fun N h4=>sm ?_
 refine s0 (hop_nilcheck_fp rfl) ?_
 refine s0 (hop_fa_fp fd_71_0 rfl (nb rfl)) ?_
 refine s0 (HOp.val (v':=(HV.sl 4 wd (rowF (onF on)))) (hop_load_fp ty_69 rfl (nb rfl) (fun h=>(by rfl))) (rfl)) ?_
 refine s0 (hnl el_69) ?_
 refine sa<|snl h4<|hw_ret ?_
 refine hq_ret1 rfl (rval_tmp rfl) [] rfl pre0 ?_
 exact .imm _
theorem nfirst_h (wd:Nat) (on:List Bag) (β:Nat→Bag) (p:Pc):HPure Tryz.prog 15 [netP wd on β p] (bagH p.first):=by
 refine hpure_of Tryz.func15 rfl kr _ _ _ rfl 10 rfl rfl (fun w F=>?_)
 refine srg fun N h1=>?_
 refine hm_1 2 (hop_alloc (id:=2) (sz:=4) zc_33 rfl rfl (nb rfl) (nb rfl)) rfl rfl pre0 rfl rfl (c':=1) rfl ?_
 refine snl h1<|hw_seq fun Nh2 h2=>srg fun N h3=>sm ?_
 refine s0 (hop_eql_fp rfl rfl rfl) ?_
 refine snl h3 ?_
 refine wc (fun hc0=>?_) (fun hc0=>?_)
 ·have hr0:=hc0;(try simp only [hcs,Int.reduceToNat] at hc0)
  exfalso;simp at hr0
 have hr0:=hc0;(try simp only [hcs,Int.reduceToNat] at hc0)
 refine hw_skip<|h2 _<|srg fun N h4=>sm ?_
 refine s0 (hop_nilcheck_fp rfl) ?_
 refine s0 (hop_fa_fp fd_71_2 rfl (nb rfl)) ?_
 refine s0 (hop_load_fp ty_33 rfl (nb rfl) (fun h=>(by cases h))) ?_
 refine sw (2) ty_33 ?_
 refine snl h4<|hw_ret ?_
 refine hq_ret1 rfl (rvl_cell rfl rfl ty_33 rqc rfl rfl) [] rfl pre0 ?_
 exact fz_bg (by exact j4 rfl rfl rfl rfl)
theorem nends_h (wd:Nat) (on:List Bag) (β:Nat→Bag) (p:Pc):HPure Tryz.prog 23 [netP wd on β p] (bagH p.ends):=by
 refine hpure_of Tryz.func23 rfl kr _ _ _ rfl 10 rfl rfl (fun w F=>?_)
 refine srg fun N h1=>?_
 refine hm_1 2 (hop_alloc (id:=2) (sz:=4) zc_33 rfl rfl (nb rfl) (nb rfl)) rfl rfl pre0 rfl rfl (c':=1) rfl ?_
 refine snl h1<|hw_seq fun Nh2 h2=>srg fun N h3=>sm ?_
 refine s0 (hop_eql_fp rfl rfl rfl) ?_
 refine snl h3 ?_
 refine wc (fun hc0=>?_) (fun hc0=>?_)
 ·have hr0:=hc0;(try simp only [hcs,Int.reduceToNat] at hc0)
  exfalso;simp at hr0
 have hr0:=hc0;(try simp only [hcs,Int.reduceToNat] at hc0)
 refine hw_skip<|h2 _<|srg fun N h4=>sm ?_
 refine s0 (hop_nilcheck_fp rfl) ?_
 refine s0 (hop_fa_fp fd_71_3 rfl (nb rfl)) ?_
 refine s0 (hop_load_fp ty_33 rfl (nb rfl) (fun h=>(by cases h))) ?_
 refine sw (2) ty_33 ?_
 refine snl h4<|hw_ret ?_
 refine hq_ret1 rfl (rvl_cell rfl rfl ty_33 rqc rfl rfl) [] rfl pre0 ?_
 exact fz_bg (by exact j4 rfl rfl rfl rfl)
theorem nat_h (wd:Nat) (γ:Nat→Bag) (i:Int) (hw:wd≤1000):HPure Tryz.prog 45 [.sl 4 wd (rowF γ),intV i] (bagH (if 0≤i∧i < (wd:Int) then γ i.toNat else Bag.zero)):=by
 refine hpure_of Tryz.func45 rfl kr _ _ _ rfl 18 rfl rfl (fun w F=>?_)
 refine srg fun N h1=>?_
 refine hm_1 4 (hop_alloc (id:=4) (sz:=4) zc_33 rfl rfl (nb rfl) (nb rfl)) rfl rfl pre0 rfl rfl (c':=1) rfl ?_
 refine snl h1<|hw_seq fun Nh2 h2=>srg fun N h3=>sm ?_
 refine s0 hli ?_
 refine sm ?_
 refine gm 7 ?_
 refine gm 7 ?_
 refine stg 7 (fun hb=>hop_len_sl (T:=69) rfl (elOf_spec el_69).1 rfl) rfl rfl rfl rfl rfl ?_
 refine stg 7 (fun hb=>hop_geq rfl rfl) rfl rfl rfl rfl rfl ?_
 refine hq_p 12 (hstep_or _ _ rfl rfl rfl) rfl rfl rfl ?_
 refine nu ?_
 refine h3 _ ?_
 refine wc (fun hc0=>?_) (fun hc0=>?_)
 ·have hr0:=hc0;(try simp only [hcs,Int.reduceToNat] at hc0)
  refine srg fun N h4=>?_
  refine s0 (hop_build (hs:=[]) st_33 rfl rfl trivial) ?_
  refine sw (2) ty_33 ?_
  refine snl h4<|hw_ret<|hq_then_ret ?_
  refine hq_ret1 rfl (rvl_cell rfl rfl ty_33 rqc rfl rfl) [] rfl pre0 ?_
  rw [if_neg om];exact fz_bg (by exact j4 rfl rfl rfl rfl)
 have hr0:=hc0;(try simp only [hcs,Int.reduceToNat] at hc0)
 have hin:0≤i∧i < (wd:Int):=(by simp at hr0;omega)
 refine hw_skip<|h2 _<|srg fun N h5=>sm<|sm ?_
 refine s0 (hix el_69) ?_
 refine s0 (hop_load_fp ty_33 rfl (nb rfl) (fun h=>(by cases h))) ?_
 refine sw (2) ty_33 ?_
 refine snl h5<|hw_ret ?_
 refine hq_ret1 rfl (rvl_cell rfl rfl ty_33 rqc rfl rfl) [] rfl pre0 ?_
 rw [if_pos hin];exact fz_bg (by exact j4 rfl rfl rfl rfl)
theorem nbehind_h (wd:Nat) (on:List Bag) (β:Nat→Bag) (p:Pc) (i:Int) (hw:wd≤1000):HPure Tryz.prog 21 [netP wd on β p,intV i] (bagH (if 0≤i∧i < (wd:Int) then β i.toNat else Bag.zero)):=by
 refine hpure_of Tryz.func21 rfl kr _ _ _ rfl 14 rfl rfl (fun w F=>?_)
 refine srg fun N h1=>?_
 refine hm_1 4 (hop_alloc (id:=4) (sz:=4) zc_33 rfl rfl (nb rfl) (nb rfl)) rfl rfl pre0 rfl rfl (c':=1) rfl ?_
 refine snl h1<|hw_seq fun Nh2 h2=>srg fun N h3=>sm ?_
 refine s0 (hop_eql_fp rfl rfl rfl) ?_
 refine snl h3 ?_
 refine wc (fun hc0=>?_) (fun hc0=>?_)
 ·have hr0:=hc0;(try simp only [hcs,Int.reduceToNat] at hc0)
  exfalso;simp at hr0
 have hr0:=hc0;(try simp only [hcs,Int.reduceToNat] at hc0)
 refine hw_skip<|h2 _<|srg fun N h4=>sm ?_
 refine s0 (hop_nilcheck_fp rfl) ?_
 refine s0 (hop_fa_fp fd_71_1 rfl (nb rfl)) ?_
 refine s0 (HOp.val (v':=(HV.sl 4 wd (rowF β))) (hop_load_fp ty_69 rfl (nb rfl) (fun h=>(by rfl))) (rfl)) ?_
 refine sm ?_
 refine s0 (hop_call0 (xs:=[_,_]) (nat_h wd β i hw) ⟨rfl,⟨rfl,trivial⟩⟩ ⟨(.sl _ _ _ _ fun _ _ _ _=>.imm _),⟨fe,trivial⟩⟩) ?_
 refine sw (2) ty_33 ?_
 refine snl h4<|hw_ret ?_
 refine hq_ret1 rfl (rvl_cell rfl rfl ty_33 rqc rfl rfl) [] rfl pre0 ?_
 exact fz_bg (by exact j4 rfl rfl rfl rfl)
theorem non_h (wd:Nat) (on:List Bag) (β:Nat→Bag) (p:Pc) (i:Int) (hw:wd≤1000):HPure Tryz.prog 18 [netP wd on β p,intV i] (bagH (if 0≤i∧i < (wd:Int) then onF on i.toNat else Bag.zero)):=by
 refine hpure_of Tryz.func18 rfl kr _ _ _ rfl 14 rfl rfl (fun w F=>?_)
 refine srg fun N h1=>?_
 refine hm_1 4 (hop_alloc (id:=4) (sz:=4) zc_33 rfl rfl (nb rfl) (nb rfl)) rfl rfl pre0 rfl rfl (c':=1) rfl ?_
 refine snl h1<|hw_seq fun Nh2 h2=>srg fun N h3=>sm ?_
 refine s0 (hop_eql_fp rfl rfl rfl) ?_
 refine snl h3 ?_
 refine wc (fun hc0=>?_) (fun hc0=>?_)
 ·have hr0:=hc0;(try simp only [hcs,Int.reduceToNat] at hc0)
  exfalso;simp at hr0
 have hr0:=hc0;(try simp only [hcs,Int.reduceToNat] at hc0)
 refine hw_skip<|h2 _<|srg fun N h4=>sm ?_
 refine s0 (hop_nilcheck_fp rfl) ?_
 refine s0 (hop_fa_fp fd_71_0 rfl (nb rfl)) ?_
 refine s0 (HOp.val (v':=(HV.sl 4 wd (rowF (onF on)))) (hop_load_fp ty_69 rfl (nb rfl) (fun h=>(by rfl))) (rfl)) ?_
 refine sm ?_
 refine s0 (hop_call0 (xs:=[_,_]) (nat_h wd (onF on) i hw) ⟨rfl,⟨rfl,trivial⟩⟩ ⟨(.sl _ _ _ _ fun _ _ _ _=>.imm _),⟨fe,trivial⟩⟩) ?_
 refine sw (2) ty_33 ?_
 refine snl h4<|hw_ret ?_
 refine hq_ret1 rfl (rvl_cell rfl rfl ty_33 rqc rfl rfl) [] rfl pre0 ?_
 exact fz_bg (by exact j4 rfl rfl rfl rfl)
theorem livef_h (s:List UInt8) (hs:s≠[]):HPure Tryz.prog 31 [strV s] (bagH (bagOf [(s.length:Int),bz s 0 - 97])):=by
 have hl:0 < s.length:=List.length_pos_iff.2 hs
 have hb8:(s.getD 0 0).toNat < 256:=UInt8.toNat_lt _
 have hb9:(s[0]?.getD 0).toNat < 256:=UInt8.toNat_lt _
 refine hpure_of Tryz.func31 rfl kr _ _ _ rfl 11 rfl rfl (fun w F=>?_)
 refine srg fun N h1=>?_
 refine hm_1 2 (hop_alloc (id:=2) (sz:=4) zc_33 rfl rfl (nb rfl) (nb rfl)) rfl rfl pre0 rfl rfl (c':=1) rfl ?_
 refine snl h1<|srg fun N h2=>sm ?_
 refine s0 (hop_len_strl (T:=9) rfl kr rfl) ?_
 refine sm ?_
 refine s0 (hop_ix_strl kr rfl rfl om om) ?_
 refine s0 (hop_convk wok_i64 kr kr rfl om (by simp <;> omega)) ?_
 refine s0 (hop_subi rfl rfl rfl om (by simp <;> omega)) ?_
 refine hm_1 9 (hop_buildSlice (id:=9) (hs:=[_,_]) ei_25 (nb rfl) rfl (nb rfl) ⟨rfl,rfl,rfl,rfl,⟨rfl,rfl,rfl,rfl,trivial⟩⟩) rfl rfl pre0 rfl rfl (c':=2) rfl ?_
 refine hm_ 10 (hop_call (xs:=[_]) [(9,_)] (of_h [(s.length:Int),bz s 0 - 97] (by simp)) ⟨rfl,trivial⟩ ⟨(show Fz _ _ (iListV [(s.length:Int),bz s 0 - 97]) from fz_row (l:=[(s.length:Int),bz s 0 - 97]) (enc:=fun x _=>intV x) (d:=0) (List.mem_cons_self ..) rfl rfl (Nat.le_refl _) (fun i j hi hj=>by match i,hi,j,hj with | 0,_,0,_=>exact .imm _ | 1,_,0,_=>exact fz_intB (by show _=bz s 0 - 97;rw [bz_in hl];rfl))),trivial⟩ rfl) rfl rfl (preC rfl pre0) rfl rfl (c':=3) rfl ?_
 refine sw (4) ty_33 ?_
 refine snl h2<|hw_ret ?_
 refine hq_ret1 rfl (rvl_cell rfl rfl ty_33 rqc rfl rfl) [] rfl pre0 ?_
 exact fz_bg (by exact j4 rfl rfl rfl rfl)
def exE7:List UInt8:=[97,123,49,44,50,125,32,98,42]
def exG7:List Sg:=[⟨1,0,0,0,[97]⟩,⟨5,1,1,2,[]⟩,⟨1,7,0,0,[98]⟩,⟨5,8,0,-1,[]⟩]
def exT7:T:=.many 2 [.times 1 2 (.name [97]),.times 0 (-1) (.name [98])]
theorem exE7_lex0:(match lexV exE7 with | .ok l=>decide (l=exG7) | .error _=>false)=true:=by decide +kernel
theorem exE7_lex:lexV exE7=.ok exG7:=by
 have:=exE7_lex0
 split at this
 ·rename_i l hl;rw [hl,of_decide_eq_true this]
 ·cases this
theorem exT7_ok:exT7.ok=true:=by decide +kernel
theorem exT7_seg:Seg exG7 3 0 exG7.length exT7:=by
 refine .choice1 _ _ _ (.row 0 4 [.times 1 2 (.name [97]),.times 0 (-1) (.name [98])] (fun i=>2 * i) (by decide) rfl rfl (fun i hi=>?_))
 match i,hi with
 | 0,_=>exact .times 0 1 (.name [97]) (.name 0 (by decide)) (by decide)
 | 1,_=>exact .times 2 3 (.name [98]) (.name 2 (by decide)) (by decide)
theorem ex7_parse {r:List Pt×Int×Int} (h:ParseIs exE7 r):r=(T.flat 0 exT7,0,0):=by
 have hne:exG7≠[]:=by decide
 have hc:chk exG7 0 0 true true=(-1,false):=all_good exT7_seg
 cases h with
 | err e hv=>rw [exE7_lex] at hv;cases hv
 | none hv=>rw [exE7_lex] at hv;injection hv with hv;exact absurd hv hne
 | odd l q hv _ _ hq=>rw [exE7_lex] at hv;injection hv with hv;subst hv;rw [hc] at hq;injection hq with hq _;exact absurd hq (by omega)
 | end_ l hv _ hq=>rw [exE7_lex] at hv;injection hv with hv;subst hv;rw [hc] at hq;injection hq with _ hq;cases hq
 | ok l t hv hs=>rw [exE7_lex] at hv;injection hv with hv;subst hv;rw [seg_one hs exT7_seg]
def exM7 (s:List UInt8):Bag:=bagOf [(s.length:Int),bz s 0 - 97]
theorem nameV_ne {s:List UInt8} (h:nameV s=true):s≠[]:=by rintro rfl;revert h;decide +kernel
theorem exM7_ok:MeanOk 31 0 (fun _=>default) [] exM7 :=
 ⟨rfl,fun i hi=>absurd hi (Nat.not_lt_zero _),trivial,fun sh=>.fn _ _ _ _ (fun i hi=>absurd hi (Nat.not_lt_zero _)),fun s hs=>livef_h s (nameV_ne hs),fun s=>(bagOf_ok_has _).1⟩
theorem ex7_none:noneV exM7 (T.flat 0 exT7)=false:=by decide +kernel
theorem ex7_w:exT7.w=3:=by decide +kernel
theorem ex7_net:(lay exM7 exT7 0).pc.first=bagOf [0]∧(lay exM7 exT7 0).pc.ends=bagOf [0,1,2]∧links (fun _=>Bag.zero) (lay exM7 exT7 0).lk 0=bagOf [1,2]∧links (fun _=>Bag.zero) (lay exM7 exT7 0).lk 2=bagOf [2]:=by decide +kernel
section
variable {P:Program} {ops:Array Oper} {g:Nat}
theorem hstep_known {o:Oper} {tm:Nat→Option TV} {pre post:List (Nat×HObj)} {v:HV} (gi j:Nat) (b:Bool) (hg:o.guard=some (gi,b)) (hgi:(ops[gi]?).bind (·.dst)=some j) (hc:tm j=some (.v (.imm (.bool b)))) (h:HOp P o (pview tm) g pre v post):HStep P ops o tm g ⟨.v v,j::ops_tmps o,pre,post⟩:=by
  intro K w0 F0 E hh a w Q N r ht hG hBd hp hN
  have hj:a.tmps.getD j undef=.bool b:=Rep.imm_inv (ht j _ (List.mem_cons_self ..) hc)
  have hwant:Region.wanted o (yielded ops a.tmps)=true:=by
    unfold Region.wanted yielded
    rw [hg]
    simp only [hgi,Option.bind_some]
    by_cases hjs:j < a.tmps.size
    · have e1:a.tmps[j]?=some a.tmps[j]:=Array.getElem?_eq_getElem hjs
      have e2:a.tmps.getD j undef=a.tmps[j]:=by simp [hjs]
      rw [e1,←e2,hj];simp
    · have e2:a.tmps.getD j undef=undef:=by simp [hjs]
      rw [e2] at hj;simp [undef] at hj
  rw [if_pos hwant]
  refine h K w0 F0 E hh a w Q N r (fun x hv hx ho=>?_) hG hBd hp hN
  cases x with
  | tmp t =>
    simp only [ovl,pview] at ho
    split at ho
    · rename_i y hy
      injection ho with ho
      subst ho
      exact ht t _ (List.mem_cons_of_mem _ (mem_tmps hx)) hy
    · cases ho
  | const v=>exact rep_cst w E _ v hv (by exact ho)
  | global g=>injection ho with ho;subst ho;exact .imm _
  | func f=>injection ho with ho;subst ho;exact .fn _ _ 0 _ (fun _=>undef) rfl (fun i hi=>absurd hi (Nat.not_lt_zero _)) (fun i hi=>absurd hi (Nat.not_lt_zero _))
end
section
variable {C:Ctx} {P:Program} {ops:Array Oper} {Q:Exit→Act→World→Prop} {n clk:Nat} {tm:List (Nat×TV)} {hp:List (Nat×HObj)} {rest:List Oper} {o:Oper} {pre post:List (Nat×HObj)} {v:HV}
theorem hq_k (d j:Nat) (b:Bool) (hop:HOp P o (pview (tget tm)) clk pre v []) (hd:o.dst=some d) {gi:Nat} (hg:o.guard=some (gi,b)) (hgi:(ops[gi]?).bind (·.dst)=some j) (hc:tget tm j=some (.v (.imm (.bool b)))) (hpre:∀ p∈pre,hget hp p.1=some p.2) (hlt:Nat.blt d n=true) (hk:nokey tm d=true)
  (h:HSeq C P ops rest ⟨n,(d,.v v)::tm,hp,clk⟩ Q):HSeq C P ops (o::rest) ⟨n,tm,hp,clk⟩ Q :=
 hseq_consq (s:=⟨n,tm,hp,clk⟩) d _ hd rfl (hstep_known gi j b hg hgi hc hop) hpre hlt hk h (fun j' b' x h=>by cases h)
theorem hm_k (d j:Nat) (b:Bool) (hop:HOp P o (pview (tget tm)) clk pre v post) (hd:o.dst=some d) {gi:Nat} (hg:o.guard=some (gi,b)) (hgi:(ops[gi]?).bind (·.dst)=some j) (hc:tget tm j=some (.v (.imm (.bool b)))) (hpre:∀ p∈pre,hget hp p.1=some p.2) (hlt:Nat.blt d n=true) (hk:nokey tm d=true) {c':Nat} (hcc:clk+1=c')
  (h:HSeq C P ops rest ⟨n,(d,.v v)::tm,post++hp,c'⟩ Q):HSeq C P ops (o::rest) ⟨n,tm,hp,clk⟩ Q:=by
 subst hcc;exact hseq_cons (s:=⟨n,tm,hp,clk⟩) d _ hd (hstep_known gi j b hg hgi hc hop) hpre hlt hk h (fun j b x h=>by cases h)
end
section
variable {P:Program} {ov:Nat→Option HV} {g:Nat} {d:Option Tmp} {ty:TypeId} {pos:String} {af:Array Edge} {gd:Option (Nat×Bool)} {x y z:Operand} {hx:HV}
theorem hop_pick_t (h1:ovl ov x=some (.imm (.bool true))) (h2:ovl ov y=some hx):HOp P ⟨d,.pick x y z,ty,pos,af,gd⟩ ov g [] hx [] :=
 hop_pure fun w E ρ hr=>by
  have e1:=Rep.imm_inv (hr x _ (by simp [Op.operands]) h1)
  exact ⟨ρ y,by simp [execOp,e1,asBool],hr y _ (by simp [Op.operands]) h2⟩
end
instance (w:Nat) (on:List Bag) (β:Nat→Bag) (p:Pc) (j:Nat):Frz (netQ w on β p j):=⟨by unfold netQ;split <;> first | exact .imm _ | exact .sl _ _ _ _ fun _ _ _ _=>.imm _⟩
theorem hop_eqb_t {ov:Nat→Option HV} {g:Nat} {d:Option Tmp} {ty:TypeId} {pos:String} {af:Array Edge} {gd:Option (Nat×Bool)} {T yT:TypeId} {x y:Operand} (s:Bag) {f1 f2:Nat→HV} (hT:T=33) (h1:ovl ov x=some (.agg 4 f1)) (h2:ovl ov y=some (.agg 4 f2)) (hf1:∀ j,j < 4→f1 j=bagF s j) (hf2:∀ j,j < 4→f2 j=bagF s j) :
  HOp Tryz.prog ⟨d,.binOp .eql T x y yT,ty,pos,af,gd⟩ ov g [] (boolV true) []:=by
 have:=hop_eql_bag (g:=g) (d:=d) (ty:=ty) (pos:=pos) (af:=af) (gd:=gd) (yT:=yT) s s hT h1 h2 hf1 hf2
 simpa using this
theorem live7_h:HPure Tryz.prog 6 [] (boolV true):=by
 have hw:=ex7_w
 have hB:=ptB_flat exT7_ok (by decide +kernel)
 have hn:=ex7_net
 refine hpure_of Tryz.func6 rfl kr _ _ _ rfl 51 rfl rfl (fun w F=>?_)
 refine srg fun N h1=>sa<|snl h1<|srg fun N h2=>?_
 refine hf_callR 7 (xs:=[_]) (pre:=[]) (parse_h _ exE7 (by decide)) ⟨rfl,trivial⟩ pre0 rfl rfl (fun r c1 hr=>?_)
 (try dsimp only)
 refine sm ?_
 refine s0 hex ?_
 refine s0 hex ?_
 refine s0 hex ?_
 refine sa<|sa<|sa<|snl h2<|hw_seq fun Nh3 h3=>?_
 obtain rfl:=ex7_parse hr
 refine hw_region<|sm ?_
 refine s0 (hop_call0 (xs:=[_,_]) (new_h exM7_ok (T.flat 0 exT7) hB _ (.fine exT7 exT7_ok rfl ex7_none (by rw [hw];decide))) ⟨rfl,⟨rfl,trivial⟩⟩ ⟨(Fz.eq rfl),⟨(Fz.eq rfl),trivial⟩⟩) ?_
 refine sm ?_
 refine s0 hex ?_
 refine s0 hex ?_
 refine sa<|sa<|snl h3<|srg fun N h4=>sm ?_
 refine s0 hqi ?_
 refine sm ?_
 refine hq_k 19 18 true (hop_move rfl) rfl rfl rfl rfl pre0 rfl rfl ?_
 refine hq_k 20 18 true (hop_call0 (xs:=[_]) (nplaces_h (0+exT7.w) _ _ _ (by rw [hw];decide)) ⟨rfl,trivial⟩ ⟨(Fz.eq rfl),trivial⟩) rfl rfl rfl rfl pre0 rfl rfl ?_
 refine hq_k 21 18 true (HOp.val (v':=boolV true) (hop_eql rfl rfl) ((by rw [hw];rfl))) rfl rfl rfl rfl pre0 rfl rfl ?_
 refine s0 (hop_pick_t rfl rfl) ?_
 refine sm ?_
 refine hq_k 24 23 true (hop_move rfl) rfl rfl rfl rfl pre0 rfl rfl ?_
 refine hq_k 25 23 true (hop_call0 (xs:=[_]) (nfirst_h _ _ _ _) ⟨rfl,trivial⟩ ⟨fe,trivial⟩) rfl rfl rfl rfl pre0 rfl rfl ?_
 refine hm_k 26 23 true (hop_buildSlice (id:=26) (hs:=[_]) ei_25 (nb rfl) rfl (nb rfl) ⟨rfl,rfl,rfl,rfl,trivial⟩) rfl rfl rfl rfl pre0 rfl rfl (c':=c1+1) rfl ?_
 refine hm_k 27 23 true (hop_call (xs:=[_]) [(26,_)] (of_h [0] (by simp)) ⟨rfl,trivial⟩ ⟨(show Fz _ _ (iListV [0]) from fz_row (l:=([0]:List Int)) (enc:=fun x _=>intV x) (d:=0) (List.mem_cons_self ..) rfl rfl (Nat.le_refl _) (fun i j hi hj=>by match i,hi,j,hj with | 0,_,0,_=>exact .imm _)),trivial⟩ rfl) rfl rfl rfl rfl (preC rfl pre0) rfl rfl (c':=c1+2) rfl ?_
 refine hq_k 28 23 true (hop_eqb_t (bagOf [0]) rfl rfl rfl (by rw [←hn.1];exact fun _ _=>rfl) (fun _ _=>rfl)) rfl rfl rfl rfl pre0 rfl rfl ?_
 refine s0 (hop_pick_t rfl rfl) ?_
 refine sm ?_
 refine hq_k 31 30 true (hop_move rfl) rfl rfl rfl rfl pre0 rfl rfl ?_
 refine hq_k 32 30 true (hop_call0 (xs:=[_]) (nends_h _ _ _ _) ⟨rfl,trivial⟩ ⟨fe,trivial⟩) rfl rfl rfl rfl pre0 rfl rfl ?_
 refine hm_k 33 30 true (hop_buildSlice (id:=33) (hs:=[_,_,_]) ei_25 (nb rfl) rfl (nb rfl) ⟨rfl,rfl,rfl,rfl,⟨rfl,rfl,rfl,rfl,⟨rfl,rfl,rfl,rfl,trivial⟩⟩⟩) rfl rfl rfl rfl pre0 rfl rfl (c':=c1+3) rfl ?_
 refine hm_k 34 30 true (hop_call (xs:=[_]) [(33,_)] (of_h [0,1,2] (by simp)) ⟨rfl,trivial⟩ ⟨(show Fz _ _ (iListV [0,1,2]) from fz_row (l:=([0,1,2]:List Int)) (enc:=fun x _=>intV x) (d:=0) (List.mem_cons_self ..) rfl rfl (Nat.le_refl _) (fun i j hi hj=>by match i,hi,j,hj with | 0,_,0,_=>exact .imm _ | 1,_,0,_=>exact .imm _ | 2,_,0,_=>exact .imm _)),trivial⟩ rfl) rfl rfl rfl rfl (preC rfl pre0) rfl rfl (c':=c1+4) rfl ?_
 refine hq_k 35 30 true (hop_eqb_t (bagOf [0,1,2]) rfl rfl rfl (by rw [←hn.2.1];exact fun _ _=>rfl) (fun _ _=>rfl)) rfl rfl rfl rfl pre0 rfl rfl ?_
 refine s0 (hop_pick_t rfl rfl) ?_
 refine sm ?_
 refine hq_k 38 37 true (hop_move rfl) rfl rfl rfl rfl pre0 rfl rfl ?_
 refine hq_k 39 37 true (hop_call0 (xs:=[_,_]) (nbehind_h _ _ _ _ 0 (by rw [hw];decide)) ⟨rfl,⟨rfl,trivial⟩⟩ ⟨(Fz.eq rfl),⟨(Fz.eq rfl),trivial⟩⟩) rfl rfl rfl rfl pre0 rfl rfl ?_
 refine hm_k 40 37 true (hop_buildSlice (id:=40) (hs:=[_,_]) ei_25 (nb rfl) rfl (nb rfl) ⟨rfl,rfl,rfl,rfl,⟨rfl,rfl,rfl,rfl,trivial⟩⟩) rfl rfl rfl rfl pre0 rfl rfl (c':=c1+5) rfl ?_
 refine hm_k 41 37 true (hop_call (xs:=[_]) [(40,_)] (of_h [1,2] (by simp)) ⟨rfl,trivial⟩ ⟨(show Fz _ _ (iListV [1,2]) from fz_row (l:=([1,2]:List Int)) (enc:=fun x _=>intV x) (d:=0) (List.mem_cons_self ..) rfl rfl (Nat.le_refl _) (fun i j hi hj=>by match i,hi,j,hj with | 0,_,0,_=>exact .imm _ | 1,_,0,_=>exact .imm _)),trivial⟩ rfl) rfl rfl rfl rfl (preC rfl pre0) rfl rfl (c':=c1+6) rfl ?_
 refine hq_k 42 37 true (hop_eqb_t (bagOf [1,2]) rfl rfl rfl (by rw [if_pos (by rw [hw];decide),←hn.2.2.1];exact fun _ _=>rfl) (fun _ _=>rfl)) rfl rfl rfl rfl pre0 rfl rfl ?_
 refine s0 (hop_pick_t rfl rfl) ?_
 refine sm ?_
 refine hq_k 45 44 true (hop_move rfl) rfl rfl rfl rfl pre0 rfl rfl ?_
 refine hq_k 46 44 true (hop_call0 (xs:=[_,_]) (nbehind_h _ _ _ _ 2 (by rw [hw];decide)) ⟨rfl,⟨rfl,trivial⟩⟩ ⟨(Fz.eq rfl),⟨(Fz.eq rfl),trivial⟩⟩) rfl rfl rfl rfl pre0 rfl rfl ?_
 refine hm_k 47 44 true (hop_buildSlice (id:=47) (hs:=[_]) ei_25 (nb rfl) rfl (nb rfl) ⟨rfl,rfl,rfl,rfl,trivial⟩) rfl rfl rfl rfl pre0 rfl rfl (c':=c1+7) rfl ?_
 refine hm_k 48 44 true (hop_call (xs:=[_]) [(47,_)] (of_h [2] (by simp)) ⟨rfl,trivial⟩ ⟨(show Fz _ _ (iListV [2]) from fz_row (l:=([2]:List Int)) (enc:=fun x _=>intV x) (d:=0) (List.mem_cons_self ..) rfl rfl (Nat.le_refl _) (fun i j hi hj=>by match i,hi,j,hj with | 0,_,0,_=>exact .imm _)),trivial⟩ rfl) rfl rfl rfl rfl (preC rfl pre0) rfl rfl (c':=c1+8) rfl ?_
 refine hq_k 49 44 true (hop_eqb_t (bagOf [2]) rfl rfl rfl (by rw [if_pos (by rw [hw];decide),←hn.2.2.2];exact fun _ _=>rfl) (fun _ _=>rfl)) rfl rfl rfl rfl pre0 rfl rfl ?_
 refine s0 (hop_pick_t rfl rfl) ?_
 refine sa ?_
 refine nu ?_
 refine h4 _<|hw_ret ?_
 refine hq_ret1 rfl (rval_tmp rfl) [] rfl pre0 ?_
 exact Frz.fz
end Go.Proofs.YtldjnmljnlhaaaaGreatDoor
namespace Go.Proofs.YtldjnmljnlhaaaaGreatDoor
set_option linter.unusedSimpArgs false
set_option linter.unusedVariables false
set_option maxRecDepth 10000
def mrg:List Int→List Int→List Int
 | [],b=>b
 | x::a,[]=>x::a
 | x::a,y::b=>if x < y then x::mrg a (y::b) else if x=y then y::mrg a b else y::mrg (x::a) b
termination_by a b=>a.length+b.length
theorem mrg_nil (a:List Int):mrg a []=a:=by cases a <;> simp [mrg]
theorem nil_mrg (b:List Int):mrg [] b=b:=by simp [mrg]
theorem mrg_lt {x:Int} {a g:List Int} (h:∀ y∈g,x < y):mrg (x::a) g=x::mrg a g:=by
 cases g with
 | nil=>rw [mrg_nil,mrg_nil]
 | cons y b=>rw [mrg,if_pos (h y (List.mem_cons_self ..))]
theorem mrg_gt {y:Int} {f b:List Int} (h:∀ x∈f,y < x):mrg f (y::b)=y::mrg f b:=by
 cases f with
 | nil=>rw [nil_mrg,nil_mrg]
 | cons x a=>have:=h x (List.mem_cons_self ..);rw [mrg,if_neg (by omega),if_neg (by omega)]
theorem mrg_eq {y:Int} {a b:List Int}:mrg (y::a) (y::b)=y::mrg a b:=by
 rw [mrg,if_neg (by omega),if_pos rfl]
theorem mrg_filter (p q:Nat→Bool):∀ l:List Nat,l.Pairwise (· < ·) →
    mrg ((l.filter p).map fun j:Nat=>(j:Int)) ((l.filter q).map fun j:Nat=>(j:Int))=(l.filter fun j=>p j||q j).map fun j:Nat=>(j:Int)
  | [],_=>by simp [mrg]
  | a :: l, h => by
    have hl:=List.pairwise_cons.1 h
    have ih:=mrg_filter p q l hl.2
    have hgt:∀ r:Nat→Bool,∀ y∈(l.filter r).map (fun j:Nat=>(j:Int)),(a:Int) < y:=fun r y hy=>by
      obtain ⟨j,hj,rfl⟩:=List.mem_map.1 hy
      have:=hl.1 j (List.mem_filter.1 hj).1
      omega
    by_cases hp:p a=true <;> by_cases hq:q a=true
    · rw [List.filter_cons_of_pos hp,List.filter_cons_of_pos hq,List.filter_cons_of_pos (by simp [hp])]
      simp only [List.map_cons];rw [mrg_eq,ih]
    · rw [List.filter_cons_of_pos hp,List.filter_cons_of_neg hq,List.filter_cons_of_pos (by simp [hp])]
      simp only [List.map_cons];rw [mrg_lt (hgt q),ih]
    · rw [List.filter_cons_of_neg hp,List.filter_cons_of_pos hq,List.filter_cons_of_pos (by simp [hq])]
      simp only [List.map_cons];rw [mrg_gt (hgt p),ih]
    · rw [List.filter_cons_of_neg hp,List.filter_cons_of_neg hq,List.filter_cons_of_neg (by simp [hp,hq]),ih]
theorem mrg_bun (x y:Bag):mrg x.list y.list=(bun x y).list:=by
 rw [x.list_eq,y.list_eq,(bun x y).list_eq]
 have:=mrg_filter x.has y.has (List.range 256) List.pairwise_lt_range
 rw [this]
 congr 1
 apply List.filter_congr
 intro j _
 rw [bun_has]
def lkP (hi:Int) (g:Nat→Ly) (many:Nat):Nat→List Lk
 | 0=>[]
 | k+1=>lkP hi g many k++(g k).lk++(if hi < 0∧k+1=many then [((g k).pc.ends,(g k).pc.first)] else [])
def outJ (g:Nat→Ly):Nat→Pc
 | 0=>Pc.nil
 | k+1=>(outJ g k).join (g k).pc
def lkJ (g:Nat→Ly):Nat→List Lk
 | 0=>[]
 | k+1=>lkJ g k++[((outJ g k).ends,(g k).pc.first)]
def onP (g:Nat→Ly):Nat→List Bag
 | 0=>[]
 | k+1=>onP g k++(g k).on
def restP (lo:Nat) (g:Nat→Ly):Nat→List Pc
 | 0=>[]
 | k+1=>if k < lo then restP lo g k else restP lo g k++[(g k).pc]
theorem layA_doc {lo hi:Int} (hlo:0≤lo) (g:Nat→Ly) (many:Nat):∀ k,(layA lo hi g many k).1=onP g k∧(layA lo hi g many k).2.1.Perm (lkP hi g many k++lkJ g (min k lo.toNat))∧(layA lo hi g many k).2.2.1=outJ g (min k lo.toNat)∧(layA lo hi g many k).2.2.2=restP lo.toNat g k
  | 0=>by simp [layA,onP,lkP,lkJ,outJ,restP]
  | k + 1 => by
    obtain ⟨h1,h2,h3,h4⟩:=layA_doc hlo g many k
    have hperm:((layA lo hi g many k).2.1++(g k).lk++(if hi < 0∧k+1=many then [((g k).pc.ends,(g k).pc.first)] else [])).Perm (lkP hi g many (k+1)++lkJ g (min k lo.toNat)):=by
      show List.Perm _ (lkP hi g many k++(g k).lk++_++lkJ g (min k lo.toNat))
      rw [List.append_assoc,List.append_assoc (lkP hi g many k),List.append_assoc (lkP hi g many k)]
      refine (List.Perm.append_right _ h2).trans ?_
      rw [List.append_assoc]
      exact List.Perm.append_left _ List.perm_append_comm
    by_cases hk:(k:Int) < lo
    · have e1:min k lo.toNat=k:=by omega
      have e2:min (k+1) lo.toNat=k+1:=by omega
      rw [e1] at hperm h3
      simp only [layA]
      rw [if_pos hk,e2,h1,h4]
      refine ⟨rfl,?_,?_,?_⟩
      · simp only [lkJ,h3]
        rw [←List.append_assoc]
        exact List.Perm.append_right _ hperm
      · simp only [h3];rfl
      · simp only [restP];rw [if_pos (by omega)]
    · have e:min k lo.toNat=min (k+1) lo.toNat:=by omega
      rw [e] at hperm h3
      simp only [layA]
      rw [if_neg hk]
      refine ⟨by simp only [h1];rfl,hperm,h3,?_⟩
      simp only [h4,restP];rw [if_neg (by omega)]
theorem restP_len (lo:Nat) (g:Nat→Ly):∀ k,(restP lo g k).length=k - lo
  | 0=>by simp [restP]
  | k + 1 => by
    have:=restP_len lo g k
    simp only [restP]
    split
    · omega
    · rw [List.length_append,List.length_singleton];omega
theorem restP_get (lo:Nat) (g:Nat→Ly):∀ k j,j < k - lo→(restP lo g k).getD j default=(g (lo+j)).pc
  | 0,j,h=>by omega
  | k + 1, j, h => by
    have hl:=restP_len lo g k
    simp only [restP]
    split
    · exact restP_get lo g k j (by omega)
    · by_cases hj:j < k - lo
      · rw [List.getD_eq_getElem?_getD,List.getElem?_append_left (by omega),←List.getD_eq_getElem?_getD]
        exact restP_get lo g k j hj
      · rw [List.getD_eq_getElem?_getD,List.getElem?_append_right (by omega)]
        have e:j - (restP lo g k).length=0:=by omega
        rw [e]
        simp only [List.getElem?_cons_zero,Option.getD_some]
        congr 2;omega
theorem layT_doc {lo hi:Int} (hlo:0≤lo) (g:Nat→Ly) (β:Nat→Bag) :
  (layT lo hi g).on=onP g (manyOf lo hi) ∧
  links (links (links (links β (lkP hi g (manyOf lo hi) (manyOf lo hi))) (lkJ g (min (manyOf lo hi) lo.toNat))) (tailB (restP lo.toNat g (manyOf lo hi))).1) [((outJ g (min (manyOf lo hi) lo.toNat)).ends,(tailB (restP lo.toNat g (manyOf lo hi))).2.first)]=links β (layT lo hi g).lk ∧
  (layT lo hi g).pc=(outJ g (min (manyOf lo hi) lo.toNat)).join (tailB (restP lo.toNat g (manyOf lo hi))).2:=by
 obtain ⟨h1,h2,h3,h4⟩:=layA_doc (hi:=hi) hlo g (manyOf lo hi) (manyOf lo hi)
 refine ⟨h1,?_,?_⟩
 ·rw [←links_app,←links_app,←links_app,←List.append_assoc,←List.append_assoc]
  refine links_perm ?_ β
  simp only [layT,h4,h3]
  exact List.Perm.append_right _ (List.Perm.append_right _ h2.symm)
 ·simp only [layT,h3,h4]
theorem kw_le {k many w:Nat} (h:k < many):k * w+w≤many * w:=by rw [←Nat.succ_mul];exact Nat.mul_le_mul_right w h
theorem onP_len {g:Nat→Ly} {many N w:Nat} (hg:∀ k,k < many→(g k).Ok (N+k * w) w):∀ k,k≤many→(onP g k).length=k * w
  | 0,_=>by simp [onP]
  | k + 1, h => by
    simp only [onP]
    rw [List.length_append,onP_len hg k (by omega),(hg k (by omega)).len,Nat.succ_mul]
theorem lkP_ok {hi:Int} {g:Nat→Ly} {many N w:Nat} (hg:∀ k,k < many→(g k).Ok (N+k * w) w):∀ k,k≤many→Lks (N+k * w) (lkP hi g many k)
  | 0,_=>fun q hq=>by simp [lkP] at hq
  | k + 1, h => by
    have ih:=lkP_ok (hi:=hi) hg k (by omega)
    have hx:=hg k (by omega)
    have e:N+k * w+w=N+(k+1) * w:=by rw [Nat.succ_mul];omega
    simp only [lkP]
    refine ((ih.mono (by omega)).app (by rw [←e];exact hx.lk)).app ?_
    split
    · rw [←e];exact lks_one hx.pc.2 hx.pc.1 hx.inB.2
    · exact fun q hq=>by cases hq
theorem outJ_ok {g:Nat→Ly} {many N w:Nat} (hg:∀ k,k < many→(g k).Ok (N+k * w) w):∀ k,k≤many→(outJ g k).ok∧(outJ g k).inB N (N+k * w)
  | 0,_=>⟨Pc.nil_ok,Pc.inB_nil _ _⟩
  | k + 1, h => by
    obtain ⟨h1,h2⟩:=outJ_ok hg k (by omega)
    have hx:=hg k (by omega)
    have e:N+k * w+w=N+(k+1) * w:=by rw [Nat.succ_mul];omega
    exact ⟨Pc.join_ok h1 hx.pc,Pc.inB_join (h2.mono (Nat.le_refl _) (by omega)) (hx.inB.mono (by omega) (by omega))⟩
theorem lkJ_ok {g:Nat→Ly} {many N w:Nat} (hg:∀ k,k < many→(g k).Ok (N+k * w) w):∀ k,k≤many→Lks (N+k * w) (lkJ g k)
  | 0,_=>fun q hq=>by simp [lkJ] at hq
  | k + 1, h => by
    have ih:=lkJ_ok hg k (by omega)
    obtain ⟨h1,h2⟩:=outJ_ok hg k (by omega)
    have hx:=hg k (by omega)
    have e:N+k * w+w=N+(k+1) * w:=by rw [Nat.succ_mul];omega
    simp only [lkJ]
    exact (ih.mono (by omega)).app (lks_one h1.2 hx.pc.1 (h2.2.mono (Nat.le_refl _) (by omega)))
theorem restP_ok {lo:Nat} {g:Nat→Ly} {many N w:Nat} (hg:∀ k,k < many→(g k).Ok (N+k * w) w):∀ k,k≤many→∀ p∈restP lo g k,p.ok∧p.inB N (N+k * w)
  | 0,_=>fun p hp=>by simp [restP] at hp
  | k + 1, h => fun p hp => by
    have ih:=restP_ok (lo:=lo) hg k (by omega)
    have hx:=hg k (by omega)
    have e:N+k * w+w=N+(k+1) * w:=by rw [Nat.succ_mul];omega
    simp only [restP] at hp
    split at hp
    · exact ⟨(ih p hp).1,(ih p hp).2.mono (Nat.le_refl _) (by omega)⟩
    · rcases List.mem_append.1 hp with hp | hp
      · exact ⟨(ih p hp).1,(ih p hp).2.mono (Nat.le_refl _) (by omega)⟩
      · rw [List.mem_singleton] at hp;subst hp;exact ⟨hx.pc,hx.inB.mono (by omega) (by omega)⟩
def pcsP (g:Nat→Ly):Nat→List Pc
 | 0=>[]
 | k+1=>pcsP g k++[(g k).pc]
theorem pcsP_len (g:Nat→Ly):∀ k,(pcsP g k).length=k
 | 0=>rfl
 | k+1=>by simp [pcsP,pcsP_len g k]
theorem pcsP_get (g:Nat→Ly):∀ k j,j < k→(pcsP g k).getD j default=(g j).pc
  | 0,j,h=>by omega
  | k + 1, j, h => by
    have hl:=pcsP_len g k
    simp only [pcsP]
    by_cases hj:j < k
    · rw [List.getD_eq_getElem?_getD,List.getElem?_append_left (by omega),←List.getD_eq_getElem?_getD]
      exact pcsP_get g k j hj
    · obtain rfl:j=k:=by omega
      rw [List.getD_eq_getElem?_getD,List.getElem?_append_right (by omega),hl,Nat.sub_self]
      rfl
theorem join_doc (a b:Pc):a.join b=⟨if a.empty then bun a.first b.first else a.first,if b.empty then bun a.ends b.ends else b.ends,a.empty&&b.empty⟩:=by
 unfold Pc.join;rw [bun_comm b.ends a.ends]
end Go.Proofs.YtldjnmljnlhaaaaGreatDoor
namespace Go.Proofs.YtldjnmljnlhaaaaGreatDoor
set_option linter.unusedSimpArgs false
set_option linter.unusedVariables false
open Go.RowKit
set_option maxRecDepth 100000
set_option maxHeartbeats 1000000
theorem int_imm (x:Int) (j:Nat) (hj:j < 1):intV x=.imm ((intC x).getD j undef):=by obtain rfl:j=0:=(by omega);rfl
theorem list03_h (l:List Int) (hl:l.length≤1000000):HPure Tryz.prog 73 [iListV l] (iListV (bagOf l).list):=by
 refine ⟨⟨_,_,Tryz.func73,rfl,by kernel_rfl⟩,fun w F vs hF hr hw=>?_⟩
 obtain ⟨v,rfl,hv⟩:=rep1 hr
 obtain ⟨A,c,rfl,hc,hm,hs⟩:=sl_of 1 intC (fun _=>rfl) (fun x _=>intV x) (fun x j hj=>int_imm x j hj) 0 l hv
 refine (List03_any A l.length c w.heap.size l w rfl hs (Nat.le_refl _) hl).mono ?_
 intro e w' hg
 rw [←list_inList]
 exact gives_pure hF (fun x _=>intV x) int_imm int_one 0 hg
theorem has03_h (l:List Int) (hl:l.length≤1000000) (x:Int):HPure Tryz.prog 51 [iListV l,intV x] (boolV (decide (x∈l))):=by
 refine ⟨⟨_,_,Tryz.func51,rfl,by kernel_rfl⟩,fun w F vs hF hr hw=>?_⟩
 obtain ⟨u,v,rfl,hu,hv⟩:=rep2 hr
 obtain ⟨A,c,rfl,hc,hm,hs⟩:=sl_of 1 intC (fun _=>rfl) (fun x _=>intV x) (fun x j hj=>int_imm x j hj) 0 l hu
 rw [hv.imm_inv]
 refine (Has03_any A l.length c w.heap.size l x w rfl hs hl).mono ?_
 rintro e w' ⟨rfl,rfl⟩
 exact pure_imm hF (Below.refl _ _)
theorem hd_nilU {C:Ctx} {P:Program} {Q:Exit→Act→World→Prop} {n clk:Nat} {tm0:List (Nat×TV)} {hp0:List (Nat×HObj)} {l:List Oper} {ss:List HSpec} {id:Nat} {dn:List Oper} {k:Nat} {tm tm':List (Nat×TV)} {hp:List (Nat×HObj)} (hm:P.follows .mixedOrders=true) (hc:chkR l ss tm0=true) (hu:unOnce tm=true) (ht:dropUn tm []=tm') {c':Nat} (hc':clk+k=c') (h:HQ C Q .normal ⟨n,tm',hp,c'⟩) (nd:C.rd=none∨l.all Oper.calm=true:=by first | exact .inr rfl | exact .inl rfl | exact .inl (by assumption)):HDr P n clk tm0 hp0 l dn ss [] k tm hp (HWp C P (.region id l.toArray true) ⟨n,tm0,hp0,clk⟩ Q) :=
 hd_nil hm hc hc' (fun a w ⟨E,e0,r,hG,hsz,hdf,htm⟩=>h a w ⟨E,e0,r,hG,hsz,hdf,fun t x hx=>htm t x (dropUn_sub hu t x (by rw [ht];exact hx))⟩) nd
section
variable {P:Program} {n clk:Nat} {tm0:List (Nat×TV)} {hp0:List (Nat×HObj)} {ss:List HSpec} {Fin:Prop} {o:Oper} {rest dn:List Oper} {k:Nat} {tm:List (Nat×TV)} {hp:List (Nat×HObj)} {L:List Oper} {pre post:List (Nat×HObj)} {v:HV}
theorem hd_g3 (d gi j j2:Nat) (b2 b c c2:Bool) (hop:c=b→c2=b2→HOp P o (gview (tget tm) j b) (clk+k) pre v []) (hd:o.dst=some d) (hg:o.guard=some (gi,b)) (hgi:(L.toArray[gi]?).bind (·.dst)=some j) (hc:tget tm j=some (.un j2 b2 (.imm (.bool c)))) (hc2:tget tm j2=some (.v (.imm (.bool c2)))) (hpre:∀ p∈pre,hget hp p.1=some p.2) (hlt:Nat.blt d n=true)
  {k':Nat} (hk':k+1=k') (h:HDr P n clk tm0 hp0 L (dn++[o]) (ss++[⟨.un j b v,j::j2::ops_tmps o,pre,[]⟩]) rest k' ((d,.un j b v)::tm) hp Fin):HDr P n clk tm0 hp0 L dn ss (o::rest) k tm hp Fin:=by
 subst hk';exact hd_cons ⟨.un j b v,j::j2::ops_tmps o,pre,[]⟩ d hd (hstep_guard3 gi j j2 b2 b c c2 hg hgi hc hc2 hop) hpre hlt h
end
theorem drop_g {l:List Int} {i:Nat} (h:i < l.length):l.drop i=l.getD i 0::l.drop (i+1):=by
 rw [List.drop_eq_getElem_cons h,List.getD_eq_getElem?_getD,List.getElem?_eq_getElem h];rfl
theorem mrg_len:∀ a b:List Int,(mrg a b).length≤a.length+b.length
  | [],b=>by simp [mrg]
  | x::a,[]=>by simp [mrg]
  | x :: a, y :: b => by
    rw [mrg]
    have h1:=mrg_len a (y::b)
    have h2:=mrg_len a b
    have h3:=mrg_len (x::a) b
    simp only [List.length_cons] at h1 h2 h3 ⊢
    split
    · simp only [List.length_cons];omega
    · split <;> simp only [List.length_cons] <;> omega
termination_by a b=>a.length+b.length
theorem mrg_a {A B:List Int} {i k:Nat} (hi:i < A.length) (h:k=B.length∨(k < B.length∧A.getD i 0 < B.getD k 0)):mrg (A.drop i) (B.drop k)=A.getD i 0::mrg (A.drop (i+1)) (B.drop k):=by
 rw [drop_g hi]
 rcases h with h | ⟨h,h2⟩
 ·rw [List.drop_eq_nil_of_le (by omega:B.length≤k),mrg_nil,mrg_nil]
 ·rw [drop_g h,mrg,if_pos h2]
theorem mrg_e {A B:List Int} {i k:Nat} (hi:i < A.length) (hk:k < B.length) (h:A.getD i 0=B.getD k 0):mrg (A.drop i) (B.drop k)=B.getD k 0::mrg (A.drop (i+1)) (B.drop (k+1)):=by
 rw [drop_g hi,drop_g hk,h,mrg_eq]
theorem mrg_b {A B:List Int} {i k:Nat} (hk:k < B.length) (h:i=A.length∨(i < A.length∧B.getD k 0 < A.getD i 0)):mrg (A.drop i) (B.drop k)=B.getD k 0::mrg (A.drop i) (B.drop (k+1)):=by
 rw [drop_g hk]
 rcases h with h | ⟨h,h2⟩
 ·rw [List.drop_eq_nil_of_le (by omega:A.length≤i),nil_mrg,nil_mrg]
 ·rw [drop_g h,mrg,if_neg (by omega),if_neg (by omega)]
@[reducible] def iO (g:Nat) (l:List Int):HObj:=⟨g,l.length,1,3,0,iListF l⟩
theorem refOr0_h (A B:List Int) (hA:A.length≤1000000) (hB:B.length≤1000000):HPure Tryz.prog 57 [iListV A,iListV B] (iListV (mrg A B)):=by
 have hml:=mrg_len A B
 refine hpure_of Tryz.func57 rfl kr _ _ _ rfl 75 rfl rfl (fun w F=>?_)
 refine srg fun N h1=>sa<|snl h1<|srg fun N h2=>sa<|snl h2<|srg fun N h3=>sa<|snl h3<|srg fun N h4=>sa<|snl h4<|hw_seq fun Nh5 h5=>hw_block ?_
 refine hw_own 5 9005 1 3 ((iListF [])) rfl (by decide) rfl (c':=1) rfl ?_
 refine hw_loopc (α:=Nat×Nat×List Int×Nat) (fun x c=>⟨75,[(0,.v (iListV A)),(1,.v (iListV B)),(5,.v (.os 9005 x.2.2.2 0 x.2.2.1.length)),(6,.v (intV x.1)),(7,.v (intV x.2.1))],[(9005,iO x.2.2.2 x.2.2.1)],c⟩) (fun x=>x.1≤A.length∧x.2.1≤B.length∧x.2.2.1++mrg (A.drop x.1) (B.drop x.2.1)=mrg A B) (fun x=>A.length+B.length - x.1 - x.2.1) ((0,0,[],0)) (by exact ⟨Nat.zero_le _,Nat.zero_le _,rfl⟩) (hsub_of rfl (Nat.le_refl _) tsa hsa) (fun x c hx NhL6 hL6=>?_)
 revert hx hL6;obtain ⟨i,k,out,gr⟩:=x;intro hx hL6;dsimp only at hx hL6 ⊢
 obtain ⟨hi,hk,hm⟩:=hx
 have hol:out.length≤2000000:=(by have:=congrArg List.length hm;rw [List.length_append] at this;omega)
 refine hw_seq fun Nh7 h7=>srg fun N h8=>sm<|sm ?_
 refine s0 (hnl el_25) ?_
 refine s0 hli ?_
 refine sm ?_
 refine gm 12 ?_
 refine gm 12 ?_
 refine stg 12 (fun hb=>hop_len_sl (T:=25) rfl (elOf_spec el_25).1 rfl) rfl rfl rfl rfl rfl ?_
 refine stg 12 (fun hb=>hop_lss rfl rfl) rfl rfl rfl rfl rfl ?_
 refine hq_p 17 (hstep_or _ _ rfl rfl rfl) rfl rfl rfl ?_
 refine nu ?_
 refine h8 _ ?_
 refine wc (fun hc0=>?_) (fun hc0=>?_)
 ·have hr0:=hc0;(try simp only [hcs,Int.reduceToNat] at hc0)
  refine hw_skip<|h7 _<|hw_block<|hw_seq fun Nh9 h9=>hw_seq fun Nh10 h10=>hd_start ?_
  refine dm 1 ?_
  refine dm 2 ?_
  refine d0 3 (hnl el_25) ?_
  refine d0 4 hqi ?_
  refine dm 5 ?_
  refine hd_g 23 4 22 false _ (fun hb=>hop_move rfl) rfl rfl rfl rfl pre0 rfl rfl rfl (k':=6) rfl ?_
  refine hd_g 24 4 22 false _ (fun hb=>hop_move rfl) rfl rfl rfl rfl pre0 rfl rfl rfl (k':=7) rfl ?_
  refine hd_g 25 4 22 false _ (fun hb=>hop_len_sl (T:=25) rfl (elOf_spec el_25).1 rfl) rfl rfl rfl rfl pre0 rfl rfl rfl (k':=8) rfl ?_
  refine hd_g 26 4 22 false _ (fun hb=>hop_lss rfl rfl) rfl rfl rfl rfl pre0 rfl rfl rfl (k':=9) rfl ?_
  refine hd_g 27 4 22 false _ (fun hb=>hop_move rfl) rfl rfl rfl rfl pre0 rfl rfl rfl (k':=10) rfl ?_
  refine hd_g3 28 9 27 22 false true _ _ (fun hb hb2=>hop_move rfl) rfl rfl rfl rfl rfl pre0 rfl (k':=11) rfl ?_
  refine hd_g3 29 9 27 22 false true _ _ (fun hb hb2=>hop_move rfl) rfl rfl rfl rfl rfl pre0 rfl (k':=12) rfl ?_
  refine hd_g3 30 9 27 22 false true _ _ (fun hb hb2=>hop_ia_sl el_25 rfl rfl (by simp at hb;omega) (by simp at hb;omega) (nb rfl)) rfl rfl rfl rfl rfl pre0 rfl (k':=13) rfl ?_
  refine hd_g3 31 9 27 22 false true _ _ (fun hb hb2=>hop_load_fp ty_3 rfl (nb rfl) rq) rfl rfl rfl rfl rfl pre0 rfl (k':=14) rfl ?_
  refine hd_g3 32 9 27 22 false true _ _ (fun hb hb2=>hop_move rfl) rfl rfl rfl rfl rfl pre0 rfl (k':=15) rfl ?_
  refine hd_g3 33 9 27 22 false true _ _ (fun hb hb2=>hop_move rfl) rfl rfl rfl rfl rfl pre0 rfl (k':=16) rfl ?_
  refine hd_g3 34 9 27 22 false true _ _ (fun hb hb2=>hop_ia_sl el_25 rfl rfl (by simp at hb;omega) (by simp at hb2;omega) (nb rfl)) rfl rfl rfl rfl rfl pre0 rfl (k':=17) rfl ?_
  refine hd_g3 35 9 27 22 false true _ _ (fun hb hb2=>hop_load_fp ty_3 rfl (nb rfl) rq) rfl rfl rfl rfl rfl pre0 rfl (k':=18) rfl ?_
  refine hd_g3 36 9 27 22 false true _ _ (fun hb hb2=>hop_lss rfl rfl) rfl rfl rfl rfl rfl pre0 rfl (k':=19) rfl ?_
  refine hd_pg 37 (hstep_andg (gi:=4) (j:=22) _ _ rfl rfl rfl rfl) rfl rfl (k':=20) rfl ?_
  refine hd_p 38 (hstep_or _ _ rfl rfl rfl) rfl rfl rfl (k':=21) rfl ?_
  refine hd_nilU kr kr (by rfl) (by simp only [dropUn,slots];exact rfl) (c':=c+21) rfl ?_
  refine h10 _ ?_
  refine wc (fun hc1=>?_) (fun hc1=>?_)
  ·have hr1:=hc1;(try simp only [hcs,Int.reduceToNat] at hc1)
   have hia:i < A.length:=om;have hab:k=B.length∨(k < B.length∧A.getD i 0 < B.getD k 0):=(by rcases hc1 with h | h;exact .inl om;rcases Nat.lt_or_ge k B.length with h' | h';exact .inr ⟨h',h.2⟩;exact .inl om)
   refine srg fun N h11=>sm<|sm<|sm ?_
   refine s0 (hix el_25) ?_
   refine s0 (hlf ty_3) ?_
   refine hm_1 44 (hop_buildSlice (id:=44) (hs:=[_]) ei_25 (nb rfl) rfl (nb rfl) ⟨rfl,rfl,rfl,rfl,trivial⟩) rfl rfl pre0 rfl rfl (c':=c+22) rfl ?_
   refine hm_1 45 (hol_append ei_25 (nb rfl) rfl om (nb rfl) (srl_os0 rfl (nb rfl)) om rfl) rfl rfl (preC rfl (pre1 rfl)) rfl rfl (c':=c+23) rfl ?_
   refine sa<|snl h11<|srg fun N h12=>sm ?_
   refine s0 hai ?_
   refine sa<|snl h12 ?_
   refine hw_exit ?_
   refine hq_then_exit<|hq_block_here ?_
   exact hL6 ((i+1,k,out++[A.getD i 0],c+22)) _ _ (by (try dsimp only);exact ⟨by omega,hk,by rw [List.append_assoc,List.singleton_append,←mrg_a hia hab];exact hm⟩) (by (try dsimp only);omega) (hsub_of rfl (Nat.le_refl _) (tsr rfl (tsr rfl (TmSub.cons rfl (sb_os (by simp)) tsa))) (HpSub.cons rfl (osub_snoc (enc:=fun x _=>intV x) (d:=0) rfl (fun i j _ _=>.refl _) (fun j hj=>.refl _)) HpSub.nil))
  have hr1:=hc1;(try simp only [hcs,Int.reduceToNat] at hc1)
  have hkb:k < B.length:=om
  refine hw_skip<|h9 _<|hw_seq fun Nh13 h13=>hw_seq fun Nh14 h14=>hd_start ?_
  refine dm 1 ?_
  refine dm 2 ?_
  refine d0 3 (hnl el_25) ?_
  refine d0 4 hli ?_
  refine dm 5 ?_
  refine hd_g 53 4 52 true _ (fun hb=>hop_move rfl) rfl rfl rfl rfl pre0 rfl rfl rfl (k':=6) rfl ?_
  refine hd_g 54 4 52 true _ (fun hb=>hop_move rfl) rfl rfl rfl rfl pre0 rfl rfl rfl (k':=7) rfl ?_
  refine hd_g 55 4 52 true _ (fun hb=>hop_ia_sl el_25 rfl rfl (by simp at hb;exact omx) (by simp at hb;exact omx) (nb rfl)) rfl rfl rfl rfl pre0 rfl rfl rfl (k':=8) rfl ?_
  refine hd_g 56 4 52 true _ (fun hb=>hop_load_fp ty_3 rfl (nb rfl) rq) rfl rfl rfl rfl pre0 rfl rfl rfl (k':=9) rfl ?_
  refine hd_g 57 4 52 true _ (fun hb=>hop_move rfl) rfl rfl rfl rfl pre0 rfl rfl rfl (k':=10) rfl ?_
  refine hd_g 58 4 52 true _ (fun hb=>hop_move rfl) rfl rfl rfl rfl pre0 rfl rfl rfl (k':=11) rfl ?_
  refine hd_g 59 4 52 true _ (fun hb=>hop_ia_sl el_25 rfl rfl (by simp at hb;exact omx) (by simp at hb;exact omx) (nb rfl)) rfl rfl rfl rfl pre0 rfl rfl rfl (k':=12) rfl ?_
  refine hd_g 60 4 52 true _ (fun hb=>hop_load_fp ty_3 rfl (nb rfl) rq) rfl rfl rfl rfl pre0 rfl rfl rfl (k':=13) rfl ?_
  refine hd_g 61 4 52 true _ (fun hb=>hop_eql rfl rfl) rfl rfl rfl rfl pre0 rfl rfl rfl (k':=14) rfl ?_
  refine hd_p 62 (hstep_and _ _ rfl rfl rfl) rfl rfl rfl (k':=15) rfl ?_
  refine hd_nilU kr kr (by rfl) (by simp only [dropUn,slots];exact rfl) (c':=c+36) rfl ?_
  refine h14 _ ?_
  refine wc (fun hc2=>?_) (fun hc2=>?_)
  ·have hr2:=hc2;(try simp only [hcs,Int.reduceToNat] at hc2)
   have hib:i < A.length∧A.getD i 0=B.getD k 0:=⟨by omega,hc2.2⟩
   refine hw_region<|sm ?_
   refine s0 hai ?_
   refine sa<|snl h13<|srg fun N h15=>sm<|sm<|sm ?_
   refine s0 (hix el_25) ?_
   refine s0 (hlf ty_3) ?_
   refine hm_1 70 (hop_buildSlice (id:=70) (hs:=[_]) ei_25 (nb rfl) rfl (nb rfl) ⟨rfl,rfl,rfl,rfl,trivial⟩) rfl rfl pre0 rfl rfl (c':=c+37) rfl ?_
   refine hm_1 71 (hol_append ei_25 (nb rfl) rfl om (nb rfl) (srl_os0 rfl (nb rfl)) om rfl) rfl rfl (preC rfl (pre1 rfl)) rfl rfl (c':=c+38) rfl ?_
   refine sa<|snl h15<|hw_region<|sm ?_
   refine s0 hai ?_
   refine sa<|hseq_nil<|hq_block ?_
   exact hL6 ((i+1,k+1,out++[B.getD k 0],c+37)) _ _ (by (try dsimp only);exact ⟨by omega,by omega,by rw [List.append_assoc,List.singleton_append,←mrg_e hib.1 hkb hib.2];exact hm⟩) (by (try dsimp only);omega) (hsub_of rfl (Nat.le_refl _) (tsr rfl (tsr rfl (TmSub.cons rfl (sb_os (by simp)) tsa))) (HpSub.cons rfl (osub_snoc (enc:=fun x _=>intV x) (d:=0) rfl (fun i j _ _=>.refl _) (fun j hj=>.refl _)) HpSub.nil))
  have hr2:=hc2;(try simp only [hcs,Int.reduceToNat] at hc2)
  have hib:i=A.length∨(i < A.length∧B.getD k 0 < A.getD i 0):=(by rcases Nat.lt_or_ge i A.length with h | h;(have hd:decide ((i:Int) < (A.length:Int))=true:=decide_eq_true om;have h1:=hc1.2;rw [hd,Bool.true_and,decide_eq_false_iff_not] at h1;have h2:=hr2;rw [hd,Bool.true_and,beq_eq_false_iff_ne,Int.toNat_natCast,Int.toNat_natCast] at h2;exact .inr ⟨h,by omega⟩);exact .inl om)
  refine hw_skip<|h13 _<|srg fun N h16=>sm<|sm<|sm ?_
  refine s0 (hix el_25) ?_
  refine s0 (hlf ty_3) ?_
  refine hm_1 70 (hop_buildSlice (id:=70) (hs:=[_]) ei_25 (nb rfl) rfl (nb rfl) ⟨rfl,rfl,rfl,rfl,trivial⟩) rfl rfl pre0 rfl rfl (c':=c+37) rfl ?_
  refine hm_1 71 (hol_append ei_25 (nb rfl) rfl om (nb rfl) (srl_os0 rfl (nb rfl)) om rfl) rfl rfl (preC rfl (pre1 rfl)) rfl rfl (c':=c+38) rfl ?_
  refine sa<|snl h16<|hw_region<|sm ?_
  refine s0 hai ?_
  refine sa<|hseq_nil<|hq_block ?_
  exact hL6 ((i,k+1,out++[B.getD k 0],c+37)) _ _ (by (try dsimp only);exact ⟨hi,by omega,by rw [List.append_assoc,List.singleton_append,←mrg_b hkb hib];exact hm⟩) (by (try dsimp only);omega) (hsub_of rfl (Nat.le_refl _) (tsr rfl (tsr rfl (TmSub.cons rfl (sb_os (by simp)) tsa))) (HpSub.cons rfl (osub_snoc (enc:=fun x _=>intV x) (d:=0) rfl (fun i j _ _=>.refl _) (fun j hj=>.refl _)) HpSub.nil))
 have hr0:=hc0;(try simp only [hcs,Int.reduceToNat] at hc0)
 refine hw_exit ?_
 refine hq_then_exit<|hq_then_exit<|hq_block_here<|h5 _<|srg fun N h17=>sm<|sa<|snl h17<|hw_ret ?_
 refine hq_ret1 rfl (rval_tmp rfl) [(9005,_)] rfl (preC rfl pre0) ?_
 have ho:out=mrg A B:=(by rw [List.drop_eq_nil_of_le om,List.drop_eq_nil_of_le om] at hm;simpa [mrg] using hm);rw [←ho];exact fz_row (l:=out) (enc:=fun x _=>intV x) (d:=0) (List.mem_cons_self ..) rfl rfl (Nat.le_refl _) (fun i j hi hj=>.imm _)
theorem refOr_h (x y:Bag):HPure Tryz.prog 57 [iListV x.list,iListV y.list] (iListV (bun x y).list):=by
 rw [←mrg_bun]
 exact refOr0_h _ _ (by have:=list_le x;omega) (by have:=list_le y;omega)
structure Mn where
 name:List UInt8
 on:List Int
instance:Inhabited Mn:=⟨⟨[],[]⟩⟩
@[reducible] def mnF (x:Mn):Nat→HV:=fun j=>match j with | 0=>strV x.name | _=>iListV x.on
@[reducible] def mnsV (l:List Mn):HV:=.sl 2 l.length (fun i=>mnF (l.getD i default))
theorem fz_mnF {sh:List (Nat×HObj)} (x:Mn) (j:Nat):Fz sh (mnF x j) (mnF x j):=by unfold mnF;split <;> exact Frz.fz
instance frz_mns (l:List Mn):Frz (mnsV l):=⟨.sl _ _ _ _ fun _ _ _ _=>fz_mnF _ _⟩
def meansV:List Mn→List UInt8→Bag
 | [],_=>Bag.zero
 | x::l,s=>if x.name=s then bagOf x.on else meansV l s
theorem means_ok:∀ (l:List Mn) (s:List UInt8),(meansV l s).ok
 | [],_=>Bag.zero_ok
 | x::l,s=>by unfold meansV;split;exact (bagOf_ok_has _).1;exact means_ok l s
theorem means_drop:∀ (l:List Mn) (s:List UInt8) (i:Nat),i≤l.length→(∀ j,j < i→(l.getD j default).name≠s)→meansV l s=meansV (l.drop i) s
  | l,s,0,_,_=>rfl
  | [],s,i+1,h,_=>absurd h (by simp)
  | x :: l, s, i + 1, h, hn => by
    have h0:x.name≠s:=hn 0 (by omega)
    show (if x.name=s then _ else _)=_
    rw [if_neg h0]
    exact means_drop l s i (by simpa using h) (fun j hj=>hn (j+1) (by omega))
theorem means_at {l:List Mn} {s:List UInt8} {i:Nat} (hi:i < l.length) (hn:∀ j,j < i→(l.getD j default).name≠s) (h:(l.getD i default).name=s):meansV l s=bagOf (l.getD i default).on:=by
 rw [means_drop l s i (by omega) hn,List.drop_eq_getElem_cons hi]
 have e:l[i]=l.getD i default:=by rw [List.getD_eq_getElem?_getD,List.getElem?_eq_getElem hi];rfl
 rw [e]
 unfold meansV
 rw [if_pos h]
theorem means_none {l:List Mn} {s:List UInt8} (hn:∀ j,j < l.length→(l.getD j default).name≠s):meansV l s=Bag.zero:=by
 rw [means_drop l s l.length (Nat.le_refl _) hn,List.drop_length];rfl
theorem zero_list:Bag.zero.list=[]:=by decide +kernel
def MnB (l:List Mn):Prop:=l.length≤1000000∧∀ i,i < l.length→(l.getD i default).on.length≤1000000
theorem means_h (l:List Mn) (hB:MnB l) (s:List UInt8):HPure Tryz.prog 43 [mnsV l,strV s] (iListV (meansV l s).list):=by
 have hl:=hB.1
 refine hpure_of Tryz.func43 rfl kr _ _ _ rfl 25 rfl rfl (fun w F=>?_)
 refine srg fun N h1=>sa<|snl h1<|hw_seq fun Nh2 h2=>srg fun N h3=>sa<|snl h3<|hw_block ?_
 refine hw_loopc (α:=Nat) (fun x c=>⟨25,[(0,.v (mnsV l)),(1,.v (strV s)),(5,.v (intV x))],[],c⟩) (fun x=>x≤l.length∧∀ j,j < x→(l.getD j default).name≠s) (fun x=>l.length - x) (0) (by exact ⟨Nat.zero_le _,fun j hj=>absurd hj (Nat.not_lt_zero _)⟩) (hsub_of rfl (Nat.le_refl _) tsa HpSub.nil) (fun i c hx NhL4 hL4=>?_)
 (try dsimp only at hx hL4 ⊢)
 obtain ⟨hi,hn⟩:=hx
 refine hw_seq fun Nh5 h5=>srg fun N h6=>sm<|sm ?_
 refine s0 (hnl el_42) ?_
 refine s0 hli ?_
 refine snl h6 ?_
 refine wc (fun hc0=>?_) (fun hc0=>?_)
 ·have hr0:=hc0;(try simp only [hcs,Int.reduceToNat] at hc0)
  have hil:i < l.length:=om;have hio:=hB.2 i hil
  refine hw_skip<|h5 _<|hw_seq fun Nh7 h7=>hw_block<|srg fun N h8=>sm<|sm ?_
  refine s0 (hix el_42) ?_
  refine s0 (hop_fa_fp fd_127_0 rfl (nb rfl)) ?_
  refine s0 (hlf ty_9) ?_
  refine sm ?_
  refine s0 (hop_seq_l rfl rfl) ?_
  refine snl h8 ?_
  refine wc (fun hc1=>?_) (fun hc1=>?_)
  ·have hr1:=hc1;(try simp only [hcs,Int.reduceToNat] at hc1)
   refine srg fun N h9=>sm<|sm ?_
   refine s0 (hix el_42) ?_
   refine s0 (hop_fa_fp fd_127_1 rfl (nb rfl)) ?_
   refine s0 (hlf ty_25) ?_
   refine s0 (hop_call0 (xs:=[_]) (list03_h (l.getD i default).on hio) ⟨rfl,trivial⟩ ⟨fe,trivial⟩) ?_
   refine sa<|snl h9<|hw_ret<|hq_block_ret<|hq_then_ret<|hq_then_ret<|hq_block_ret<|hq_then_ret ?_
   refine hq_ret1 rfl (rval_tmp rfl) [] rfl pre0 ?_
   rw [means_at hil hn hc1];exact Frz.fz
  have hr1:=hc1;(try simp only [hcs,Int.reduceToNat] at hc1)
  refine hw_skip<|hq_block<|h7 _<|hw_region<|sm ?_
  refine s0 hai ?_
  refine sa<|hseq_nil ?_
  exact hL4 (i+1) _ _ (by (try dsimp only);exact ⟨by omega,fun j hj=>by rcases Nat.lt_or_ge j i with h | h;exact hn j h;obtain rfl:j=i:=om;exact hc1⟩) (by (try dsimp only);omega) (hsub_of rfl (Nat.le_refl _) tsa HpSub.nil)
 have hr0:=hc0;(try simp only [hcs,Int.reduceToNat] at hc0)
 refine hw_exit ?_
 refine hq_then_exit<|hq_then_exit<|hq_block_here<|h2 _<|srg fun N h10=>sa<|snl h10<|hw_ret ?_
 refine hq_ret1 rfl (rval_tmp rfl) [] rfl pre0 ?_
 rw [means_none (fun j hj=>hn j om),zero_list];exact .nil 0 1 _ (by decide) none
def fewM (l:List Mn):Bool:=decide (l.length≤20)&&l.all (fun x=>decide (x.on.length≤50)&&decide (x.name.length≤50))
theorem fewM_no {l:List Mn} {i:Nat} (hi:i < l.length) (h:50 < (l.getD i default).on.length∨50 < (l.getD i default).name.length):fewM l=false:=by
 unfold fewM
 rw [Bool.and_eq_false_iff];right
 rw [List.all_eq_false]
 have e:l.getD i default=l[i]:=by rw [List.getD_eq_getElem?_getD,List.getElem?_eq_getElem hi];rfl
 refine ⟨l[i],List.getElem_mem hi,?_⟩
 rw [←e]
 rw [Bool.and_eq_true,decide_eq_true_eq,decide_eq_true_eq];omega
theorem fewM_yes {l:List Mn} {i:Nat} (hil:l.length≤i∨21≤i) (hi:i≤l.length) (h:∀ j,j < i→(l.getD j default).on.length≤50∧(l.getD j default).name.length≤50):fewM l=decide (l.length≤20):=by
 unfold fewM
 by_cases h20:l.length≤20
 ·have:l.all (fun x=>decide (x.on.length≤50)&&decide (x.name.length≤50))=true:=by
   rw [List.all_eq_true]
   intro x hx
   obtain ⟨j,hj,rfl⟩:=List.mem_iff_getElem.1 hx
   have:=h j (by omega)
   rw [List.getD_eq_getElem?_getD,List.getElem?_eq_getElem hj] at this
   simpa using this
  rw [this,Bool.and_true]
 ·rw [decide_eq_false h20];rfl
theorem fewM_B {l:List Mn} (h:fewM l=true):MnB l∧l.length≤20:=by
 unfold fewM at h
 rw [Bool.and_eq_true,decide_eq_true_eq,List.all_eq_true] at h
 refine ⟨⟨by omega,fun i hi=>?_⟩,h.1⟩
 have:=h.2 _ (List.getElem_mem hi)
 rw [List.getD_eq_getElem?_getD,List.getElem?_eq_getElem hi]
 simp at this
 show (l[i]).on.length≤_
 omega
theorem fewM_h (l:List Mn):HPure Tryz.prog 41 [mnsV l] (boolV (fewM l)):=by
 refine hpure_of Tryz.func41 rfl kr _ _ _ rfl 33 rfl rfl (fun w F=>?_)
 refine srg fun N h1=>sa<|snl h1<|hw_seq fun Nh2 h2=>srg fun N h3=>sa<|snl h3<|hw_block ?_
 refine hw_loopc (α:=Nat) (fun x c=>⟨33,[(0,.v (mnsV l)),(3,.v (intV x))],[],c⟩) (fun x=>x≤l.length∧x≤21∧∀ j,j < x→(l.getD j default).on.length≤50∧(l.getD j default).name.length≤50) (fun x=>21 - x) (0) (by exact ⟨Nat.zero_le _,Nat.zero_le _,fun j hj=>absurd hj (Nat.not_lt_zero _)⟩) (hsub_of rfl (Nat.le_refl _) tsa HpSub.nil) (fun i c hx NhL4 hL4=>?_)
 (try dsimp only at hx hL4 ⊢)
 obtain ⟨hi,hi21,hn⟩:=hx
 refine hw_seq fun Nh5 h5=>srg fun N h6=>sm<|sm ?_
 refine s0 (hnl el_42) ?_
 refine s0 hli ?_
 refine sm ?_
 refine gm 8 ?_
 refine stg 8 (fun hb=>hop_lss rfl rfl) rfl rfl rfl rfl rfl ?_
 refine hq_p 11 (hstep_and _ _ rfl rfl rfl) rfl rfl rfl ?_
 refine nu ?_
 refine h6 _ ?_
 refine wc (fun hc0=>?_) (fun hc0=>?_)
 ·have hr0:=hc0;(try simp only [hcs,Int.reduceToNat] at hc0)
  have hil:i < l.length∧i < 21:=om;have hil1:=hil.1
  refine hw_skip<|h5 _<|hw_seq fun Nh7 h7=>hw_block<|srg fun N h8=>sm<|sm ?_
  refine s0 (hix el_42) ?_
  refine s0 (hop_fa_fp fd_127_1 rfl (nb rfl)) ?_
  refine s0 (hlf ty_25) ?_
  refine s0 (hnl el_25) ?_
  refine s0 (hop_gtr rfl rfl) ?_
  refine sm ?_
  refine gm 21 ?_
  refine gm 21 ?_
  refine stg 21 (fun hb=>hop_ia_sl el_42 rfl rfl (by simp at hb;exact omx) (by simp at hb;exact omx) (nb rfl)) rfl rfl rfl rfl rfl ?_
  refine stg 21 (fun hb=>hop_fa_fp fd_127_0 rfl (nb rfl)) rfl rfl rfl rfl rfl ?_
  refine stg 21 (fun hb=>hop_load_fp ty_9 rfl (nb rfl) rq) rfl rfl rfl rfl rfl ?_
  refine stg 21 (fun hb=>hop_len_strl (T:=9) rfl kr rfl) rfl rfl rfl rfl rfl ?_
  refine stg 21 (fun hb=>hop_gtr rfl rfl) rfl rfl rfl rfl rfl ?_
  refine hq_p 29 (hstep_or _ _ rfl rfl rfl) rfl rfl rfl ?_
  refine nu ?_
  refine h8 _ ?_
  refine wc (fun hc1=>?_) (fun hc1=>?_)
  ·have hr1:=hc1;(try simp only [hcs,Int.reduceToNat] at hc1)
   refine srg fun N h9=>sa<|snl h9<|hw_ret<|hq_block_ret<|hq_then_ret<|hq_then_ret<|hq_block_ret<|hq_then_ret ?_
   refine hq_ret1 rfl (rval_tmp rfl) [] rfl pre0 ?_
   rw [fewM_no hil1 om];exact .imm _
  have hr1:=hc1;(try simp only [hcs,Int.reduceToNat] at hc1)
  refine hw_skip<|hq_block<|h7 _<|hw_region<|sm ?_
  refine s0 hai ?_
  refine sa<|hseq_nil ?_
  exact hL4 (i+1) _ _ (by (try dsimp only);exact ⟨by omega,by omega,fun j hj=>by rcases Nat.lt_or_ge j i with h | h;exact hn j h;obtain rfl:j=i:=om;omega⟩) (by (try dsimp only);omega) (hsub_of rfl (Nat.le_refl _) tsa HpSub.nil)
 have hr0:=hc0;(try simp only [hcs,Int.reduceToNat] at hc0)
 have hie:l.length≤i∨21≤i:=(by have h:=hr0;simp at h;omega)
 refine hw_exit ?_
 refine hq_then_exit<|hq_then_exit<|hq_block_here<|h2 _<|srg fun N h10=>sm ?_
 refine s0 (hnl el_42) ?_
 refine s0 (hop_leq rfl rfl) ?_
 refine sa<|snl h10<|hw_ret ?_
 refine hq_ret1 rfl (rval_tmp rfl) [] rfl pre0 ?_
 rw [fewM_yes hie hi hn];exact fz_bool (decide_eq_decide.2 om)
theorem netc_h (l:List Mn) (hB:MnB l) (s:List UInt8):HPure Tryz.prog 42 [strV s,.fp 1 (fun _=>mnsV l)] (bagH (meansV l s)):=by
 have hml:=list_le (meansV l s)
 refine hpure_of Tryz.func42 rfl kr _ _ _ rfl 8 rfl rfl (fun w F=>?_)
 refine srg fun N h1=>?_
 refine hm_1 3 (hop_alloc (id:=3) (sz:=4) zc_33 rfl rfl (nb rfl) (nb rfl)) rfl rfl pre0 rfl rfl (c':=1) rfl ?_
 refine snl h1<|srg fun N h2=>?_
 refine s0 (hlf ty_42) ?_
 refine sm ?_
 refine s0 (hop_call0 (xs:=[_,_]) (means_h l hB s) ⟨rfl,⟨rfl,trivial⟩⟩ ⟨fe,⟨fe,trivial⟩⟩) ?_
 refine s0 (hop_call0 (xs:=[_]) (of_h (meansV l s).list om) ⟨rfl,trivial⟩ ⟨fe,trivial⟩) ?_
 refine sw (2) ty_33 ?_
 refine snl h2<|hw_ret ?_
 refine hq_ret1 rfl (rvl_cell rfl rfl ty_33 rqc rfl rfl) [] rfl pre0 ?_
 rw [Bag.of_list _ (means_ok l s)];exact fz_bg (by exact j4 rfl rfl rfl rfl)
theorem meansOk (l:List Mn) (hB:MnB l):MeanOk 42 1 (fun i=>[HV.fp 1 (fun _=>mnsV l)].getD i default) [.fp 1 (fun _=>mnsV l)] (meansV l) :=
 ⟨rfl,fun i hi=>by obtain rfl:i=0:=(by omega);rfl,⟨.fp _ _ (Nat.le_refl _) _ _ (fun j hj=>Frz.fz),trivial⟩,fun sh=>.fn _ _ _ _ (fun i hi=>by obtain rfl:i=0:=(by omega);exact .fp _ _ (Nat.le_refl _) _ _ (fun j hj=>Frz.fz)),fun s _=>netc_h l hB s,means_ok l⟩
def noneE (l:List Mn) (e:List Pt):Bool:=e.any (fun p=>decide (p.kind=1)&&decide (meansV l p.name=Bag.zero))
theorem list_nil {x:Bag} (hx:x.ok):(x.list.length=0)↔x=Bag.zero:=by
 constructor
 ·intro h
  exact Bag.ext_list x Bag.zero hx Bag.zero_ok (by rw [zero_list];exact List.length_eq_zero_iff.1 h)
 ·rintro rfl;rw [zero_list];rfl
theorem noneE_yes {l:List Mn} {e:List Pt} {i:Nat} (hi:i < e.length) (h1:(e.getD i default).kind=1) (h2:meansV l (e.getD i default).name=Bag.zero):noneE l e=true:=by
 unfold noneE
 rw [List.any_eq_true]
 have e1:e.getD i default=e[i]:=by rw [List.getD_eq_getElem?_getD,List.getElem?_eq_getElem hi];rfl
 exact ⟨e[i],List.getElem_mem hi,by rw [←e1,decide_eq_true h1,decide_eq_true h2];rfl⟩
theorem noneE_no {l:List Mn} {e:List Pt} (h:∀ j,j < e.length→¬ ((e.getD j default).kind=1∧meansV l (e.getD j default).name=Bag.zero)):noneE l e=false:=by
 unfold noneE
 rw [List.any_eq_false]
 intro x hx
 obtain ⟨j,hj,rfl⟩:=List.mem_iff_getElem.1 hx
 have:=h j hj
 rw [List.getD_eq_getElem?_getD,List.getElem?_eq_getElem hj] at this
 simpa using this
theorem none_h (l:List Mn) (hB:MnB l) (e:List Pt) (he:e.length≤100000):HPure Tryz.prog 13 [ptsV e,mnsV l] (boolV (noneE l e)):=by
 have hl:=hB.1
 refine hpure_of Tryz.func13 rfl kr _ _ _ rfl 29 rfl rfl (fun w F=>?_)
 refine srg fun N h1=>sa<|snl h1<|hw_seq fun Nh2 h2=>srg fun N h3=>sa<|snl h3<|hw_block ?_
 refine hw_loopc (α:=Nat) (fun x c=>⟨29,[(0,.v (ptsV e)),(1,.v (mnsV l)),(5,.v (intV x))],[],c⟩) (fun x=>x≤e.length∧∀ j,j < x→¬ ((e.getD j default).kind=1∧meansV l (e.getD j default).name=Bag.zero)) (fun x=>e.length - x) (0) (by exact ⟨Nat.zero_le _,fun j hj=>absurd hj (Nat.not_lt_zero _)⟩) (hsub_of rfl (Nat.le_refl _) tsa HpSub.nil) (fun i c hx NhL4 hL4=>?_)
 (try dsimp only at hx hL4 ⊢)
 obtain ⟨hi,hn⟩:=hx
 refine hw_seq fun Nh5 h5=>srg fun N h6=>sm<|sm ?_
 refine s0 (hnl el_22) ?_
 refine s0 hli ?_
 refine snl h6 ?_
 refine wc (fun hc0=>?_) (fun hc0=>?_)
 ·have hr0:=hc0;(try simp only [hcs,Int.reduceToNat] at hc0)
  have hil:i < e.length:=om
  refine hw_skip<|h5 _<|hw_seq fun Nh7 h7=>hw_block<|srg fun N h8=>sm<|sm ?_
  refine s0 (hix el_22) ?_
  refine s0 (hop_fa_fp fd_27_0 rfl (nb rfl)) ?_
  refine s0 (hlf ty_3) ?_
  refine s0 hqi ?_
  refine sm ?_
  refine gm 18 ?_
  refine gm 18 ?_
  refine gm 18 ?_
  refine stg 18 (fun hb=>hop_ia_sl el_22 rfl rfl (by simp at hb;exact omx) (by simp at hb;exact omx) (nb rfl)) rfl rfl rfl rfl rfl ?_
  refine stg 18 (fun hb=>hop_fa_fp fd_27_3 rfl (nb rfl)) rfl rfl rfl rfl rfl ?_
  refine stg 18 (fun hb=>hop_load_fp ty_9 rfl (nb rfl) rq) rfl rfl rfl rfl rfl ?_
  refine stg 18 (fun hb=>hop_call0 (xs:=[_,_]) (means_h l hB (e.getD i default).name) ⟨rfl,⟨rfl,trivial⟩⟩ ⟨fe,⟨fe,trivial⟩⟩) rfl rfl rfl rfl rfl ?_
  refine stg 18 (fun hb=>hop_len_sl (T:=25) rfl (elOf_spec el_25).1 rfl) rfl rfl rfl rfl rfl ?_
  refine stg 18 (fun hb=>hop_eql rfl rfl) rfl rfl rfl rfl rfl ?_
  refine hq_p 28 (hstep_and _ _ rfl rfl rfl) rfl rfl rfl ?_
  refine nu ?_
  refine h8 _ ?_
  refine wc (fun hc1=>?_) (fun hc1=>?_)
  ·have hr1:=hc1;(try simp only [hcs,Int.reduceToNat] at hc1)
   refine srg fun N h9=>sa<|snl h9<|hw_ret<|hq_block_ret<|hq_then_ret<|hq_then_ret<|hq_block_ret<|hq_then_ret ?_
   refine hq_ret1 rfl (rval_tmp rfl) [] rfl pre0 ?_
   rw [noneE_yes hil hc1.1 ((list_nil (means_ok _ _)).1 om)];exact .imm _
  have hr1:=hc1;(try simp only [hcs,Int.reduceToNat] at hc1)
  refine hw_skip<|hq_block<|h7 _<|hw_region<|sm ?_
  refine s0 hai ?_
  refine sa<|hseq_nil ?_
  exact hL4 (i+1) _ _ (by (try dsimp only);exact ⟨by omega,fun j hj=>by rcases Nat.lt_or_ge j i with h | h;exact hn j h;obtain rfl:j=i:=om;exact fun ⟨ha,hb⟩=>by have h1:=hr1;rw [Int.toNat_natCast,ha,hb,zero_list] at h1;exact absurd h1 (by decide)⟩) (by (try dsimp only);omega) (hsub_of rfl (Nat.le_refl _) tsa HpSub.nil)
 have hr0:=hc0;(try simp only [hcs,Int.reduceToNat] at hc0)
 refine hw_exit ?_
 refine hq_then_exit<|hq_then_exit<|hq_block_here<|h2 _<|srg fun N h10=>sa<|snl h10<|hw_ret ?_
 refine hq_ret1 rfl (rval_tmp rfl) [] rfl pre0 ?_
 rw [noneE_no (fun j hj=>hn j om)];exact .imm _
@[reducible] def nilS:HV:=.imm (.slice none 0 0)
def ndF (on be:HV) (p:Pc):Nat→Nat→HV:=fun _ j=>match j with
 | 0=>on | 1=>be | 2=>iListV p.first.list | 3=>iListV p.ends.list | _=>boolV p.empty
@[reducible] def ndO (g:Nat) (on be:HV) (p:Pc):HObj:=⟨g,1,5,55,0,ndF on be p⟩
@[reducible] def ndV (p:Pc):HV:=.agg 5 (ndF nilS nilS p 0)
@[reducible] def lrF (β:Nat→Bag):Nat→Nat→HV:=fun i _=>iListV (β i).list
@[reducible] def lrO (g M:Nat) (β:Nat→Bag):HObj:=⟨g,M,1,25,0,lrF β⟩
theorem fz_ndF {sh:List (Nat×HObj)} (p:Pc) (j:Nat):Fz sh (ndF nilS nilS p 0 j) (ndF nilS nilS p 0 j):=by unfold ndF;split <;> exact Frz.fz
instance frz_nd (p:Pc):Frz (ndV p):=⟨.agg _ _ _ fun j _=>fz_ndF p j⟩
theorem jn5 {P:Nat→Prop} (h0:P 0) (h1:P 1) (h2:P 2) (h3:P 3) (h4:P 4):∀ j,j < 5→P j:=fun j hj=>by
 match j,hj with | 0,_=>exact h0 | 1,_=>exact h1 | 2,_=>exact h2 | 3,_=>exact h3 | 4,_=>exact h4
theorem okz_lrow {kp sh:List (Nat×HObj)} {g M:Nat} {β β':Nat→Bag} (h:∀ p,p < M→β p=β' p):OKz kp sh (lrO g M β) (lrO g M β'):=.of fun i j hi hj=>by
 show Kz kp sh (iListV (β i).list) (iListV (β' i).list)
 rw [h i hi];exact .fz _ _ Frz.fz
theorem osub_lrow {g M:Nat} {f:Nat→Nat→HV} {β:Nat→Bag} (h:∀ i,i < M→f i 0=iListV (β i).list):OSub ⟨g,M,1,25,0,f⟩ (lrO g M β):=OSub.of fun i j hi hj=>by
 obtain rfl:j=0:=by omega
 rw [h i hi];exact .refl _
theorem upd_lrow {γ:Nat→Bag} {x:Bag} {q i:Nat}:upd (lrF γ) q 0 1 (iListV x.list).cell i 0=iListV (if i=q then x else γ i).list:=by
 unfold upd inb
 have h0:(Nat.ble 0 0&&Nat.blt 0 (0+1))=true:=by simp
 by_cases e:i=q
 ·subst e
  have:Nat.beq i i=true:=by simp
  rw [h0,this,if_pos rfl];rfl
 ·have:Nat.beq i q=false:=(by rw [Bool.eq_false_iff];intro h;exact e (Nat.eq_of_beq_eq_true h))
  rw [this,if_neg e];rfl
theorem okz_nd {kp sh:List (Nat×HObj)} {g:Nat} {f f':Nat→Nat→HV} (h:∀ j,j < 5→Kz kp sh (f 0 j) (f' 0 j)):OKz kp sh ⟨g,1,5,55,0,f⟩ ⟨g,1,5,55,0,f'⟩:=.of fun i j hi hj=>by
 obtain rfl:i=0:=by omega
 exact h j hj
theorem kz_bl {kp sh:List (Nat×HObj)} {f:HV} {y:Bag} (x:Bag) (hf:f=iListV x.list) (h:x=y):Kz kp sh f (iListV y.list):=by subst hf;subst h;exact .fz _ _ Frz.fz
theorem kz_bo {kp sh:List (Nat×HObj)} {f:HV} {y:Bool} (x:Bool) (hf:f=boolV x) (h:x=y):Kz kp sh f (boolV y):=by subst hf;subst h;exact .fz _ _ (.imm _)
theorem join_first (a b:Pc):(a.join b).first=if a.empty then bun a.first b.first else a.first:=rfl
theorem join_ends (a b:Pc):(a.join b).ends=if b.empty then bun a.ends b.ends else b.ends:=by rw [join_doc]
theorem join_empty (a b:Pc):(a.join b).empty=(a.empty&&b.empty):=rfl
theorem osub_nd {g:Nat} {f f':Nat→Nat→HV} (h0:Sb (f 0 0) (f' 0 0)) (h1:Sb (f 0 1) (f' 0 1)) (h2:Sb (f 0 2) (f' 0 2)) (h3:Sb (f 0 3) (f' 0 3)) (h4:Sb (f 0 4) (f' 0 4)):OSub ⟨g,1,5,55,0,f⟩ ⟨g,1,5,55,0,f'⟩:=OSub.of fun i j hi hj=>by
 obtain rfl:i=0:=by omega
 exact jn5 (P:=fun j=>Sb (f 0 j) (f' 0 j)) h0 h1 h2 h3 h4 j hj
theorem then_h9210 (a b:Pc) (ha:a.ok) (hb:b.ok) (M g3 g4:Nat) (β:Nat→Bag) (hin:∀ p,p < 256→a.ends.has p=true→p < M) (hN:M≤256) :
  HFunD Tryz.prog 96 [.pt 9210 g4 0 0,ndV b] [(9210,ndO g4 nilS (.os 9103 g3 0 M) a),(9103,lrO g3 M β)] (.tup 0 fun _=>default) [(9210,ndO g4 nilS (.os 9103 g3 0 M) (a.join b)),(9103,lrO g3 M (linkF β (a.ends,b.first)))]:=by
 intro c
 let k0:=c
 have hle:=list_le a.ends
 refine hfun_of Tryz.func96 rfl kr _ _ _ _ rfl 84 rfl rfl (fun X ok hX=>?_)
 refine srg fun N h1=>?_
 refine hm_1 3 (hop_box (id:=3) (sz:=5) rfl rfl rfl (nb rfl) (nb rfl)) rfl rfl pre0 rfl rfl (c':=c+1) rfl ?_
 refine snl h1<|hw_seq fun Nh2 h2=>srg fun N h3=>sa<|snl h3<|hw_block ?_
 refine hw_loopc (α:=Nat) (fun x c=>⟨84,[(0,.v (.pt 9210 g4 0 0)),(3,.v (.pt 3 k0 0 0)),(4,.v (intV x))],[(9210,ndO g4 nilS (.os 9103 g3 0 M) a),(9103,lrO g3 M (linkI a.ends b.first β x)),(3,⟨k0,1,5,55,0,ndF nilS nilS b⟩)],c⟩) (fun x=>x≤a.ends.list.length) (fun x=>a.ends.list.length - x) (0) om (hsub_of rfl (Nat.le_refl _) tsa (hsr rfl (HpSub.cons rfl (OSub.of fun i j hi hj=>by show Sb (iListV (β i).list) (iListV (linkI a.ends b.first β 0 i).list);rw [linkI_zero];exact .refl _) (HpSub.cons rfl (OSub.of fun i j hi hj=>by obtain rfl:i=0:=om;exact jn5 (P:=fun j=>Sb (ndF nilS nilS b 0 j) (ndF nilS nilS b 0 j)) (.refl _) (.refl _) (.refl _) (.refl _) (.refl _) j hj) HpSub.nil)))) (fun i c hx NhL4 hL4=>?_)
 (try dsimp only at hx hL4 ⊢)
 refine hw_seq fun Nh5 h5=>srg fun N h6=>sm<|sm ?_
 refine sn ?_
 refine sf fd_55_3 ?_
 refine sl ty_25 ?_
 refine s0 (hnl el_25) ?_
 refine s0 hli ?_
 refine snl h6 ?_
 refine wc (fun hc0=>?_) (fun hc0=>?_)
 ·have hr0:=hc0;(try simp only [hcs,Int.reduceToNat] at hc0)
  have hi':i < a.ends.list.length:=om;obtain ⟨q,hq256,hqA,hq⟩:=list_lt a.ends hi';have hqN:=hin q hq256 hqA
  refine hw_skip<|h5 _<|hw_seq fun Nh7 h7=>hw_block<|hd_start ?_
  refine dm 1 ?_
  refine dk 2 ?_
  refine d0 3 (HOp.val (v':=HV.pt 9210 g4 0 1) (hop_fa fd_55_1 rfl) (rfl)) ?_
  refine dl 4 ty_53 ?_
  refine dm 5 ?_
  refine dk 6 ?_
  refine df 7 fd_55_3 ?_
  refine dl 8 ty_25 ?_
  refine dm 9 ?_
  refine d0 10 (hix el_25) ?_
  refine d0 11 (HOp.val (v':=intV (q:Int)) (hop_load_fp ty_3 rfl (nb rfl) (fun h=>(by rfl))) (congrArg intV hq)) ?_
  refine dm 12 ?_
  refine dk 13 ?_
  refine df 14 fd_55_1 ?_
  refine dl 15 ty_53 ?_
  refine dm 16 ?_
  refine dk 17 ?_
  refine df 18 fd_55_3 ?_
  refine dl 19 ty_25 ?_
  refine dm 20 ?_
  refine d0 21 (hix el_25) ?_
  refine d0 22 (HOp.val (v':=intV (q:Int)) (hop_load_fp ty_3 rfl (nb rfl) (fun h=>(by rfl))) (congrArg intV hq)) ?_
  refine hd_q 36 (hol_ia_os el_53 rfl rfl om om) rfl rfl (pre1 rfl) rfl rfl (k':=23) rfl ?_
  refine hd_q 37 (hol_load ty_25 rfl om (nb rfl) rq) rfl rfl (pre1 rfl) rfl rfl (k':=24) rfl ?_
  refine df 25 fd_55_2 ?_
  refine dl 26 ty_25 ?_
  refine d0 27 (hop_call0 (xs:=[_,_]) (refOr_h (linkI a.ends b.first β i q) b.first) ⟨rfl,⟨rfl,trivial⟩⟩ ⟨(Fz.eq (by rw [Nat.zero_add];rfl)),⟨(Fz.eq rfl),trivial⟩⟩) ?_
  refine hd_q 41 (hol_ia_os el_53 rfl rfl om om) rfl rfl (pre1 rfl) rfl rfl (k':=28) rfl ?_
  refine hd_s1 (hol_store ty_25 rfl rfl rfl rfl om (nb rfl) (nb rfl)) rfl rfl (pre1 rfl) (k':=29) rfl ?_
  refine hd_nil kr kr (c':=c+29) rfl ?_
  refine hq_block<|h7 _<|hw_region<|sm ?_
  refine s0 hai ?_
  refine sa<|hseq_nil ?_
  exact hL4 (i+1) _ _ (by (try dsimp only);omega) (by (try dsimp only);omega) (hsub_of rfl (Nat.le_refl _) tsa (hsr rfl (HpSub.cons rfl (osub_lrow fun p hp=>upd_lrow.trans (by rw [linkI_succ a.ends b.first β hi' hq,Nat.zero_add];rfl)) hsa)))
 have hr0:=hc0;(try simp only [hcs,Int.reduceToNat] at hc0)
 have hie:i=a.ends.list.length:=om
 refine hw_exit ?_
 refine hq_then_exit<|hq_then_exit<|hq_block_here<|h2 _<|hw_seq fun Nh8 h8=>srg fun N h9=>sm ?_
 refine sn ?_
 refine sf fd_55_4 ?_
 refine sl ty_4 ?_
 refine snl h9 ?_
 refine wc (fun hc1=>?_) (fun hc1=>?_)
 ·have hr1:=hc1;(try simp only [hcs,Int.reduceToNat] at hc1)
  refine hd_start ?_
  refine dm 1 ?_
  refine dm 2 ?_
  refine dk 3 ?_
  refine df 4 fd_55_2 ?_
  refine dl 5 ty_25 ?_
  refine df 6 fd_55_2 ?_
  refine dl 7 ty_25 ?_
  refine d0 8 (hop_call0 (xs:=[_,_]) (refOr_h a.first b.first) ⟨rfl,⟨rfl,trivial⟩⟩ ⟨fe,⟨fe,trivial⟩⟩) ?_
  refine dk 9 ?_
  refine df 10 fd_55_2 ?_
  refine hd_s1 (hol_store ty_25 rfl rfl rfl rfl (nb rfl) (nb rfl) (nb rfl)) rfl rfl (pre1 rfl) (k':=11) rfl ?_
  refine hd_nil kr kr (c':=c+11) rfl ?_
  refine h8 _<|hw_seq fun Nh10 h10=>srg fun N h11=>?_
  refine sf fd_55_4 ?_
  refine sl ty_4 ?_
  refine snl h11 ?_
  refine wc (fun hc2=>?_) (fun hc2=>?_)
  ·have hr2:=hc2;(try simp only [hcs,Int.reduceToNat] at hc2)
   refine hd_start ?_
   refine dm 1 ?_
   refine dm 2 ?_
   refine dk 3 ?_
   refine df 4 fd_55_3 ?_
   refine dl 5 ty_25 ?_
   refine df 6 fd_55_3 ?_
   refine dl 7 ty_25 ?_
   refine d0 8 (hop_call0 (xs:=[_,_]) (refOr_h a.ends b.ends) ⟨rfl,⟨rfl,trivial⟩⟩ ⟨fe,⟨fe,trivial⟩⟩) ?_
   refine dk 9 ?_
   refine df 10 fd_55_3 ?_
   refine hd_s1 (hol_store ty_25 rfl rfl rfl rfl (nb rfl) (nb rfl) (nb rfl)) rfl rfl (pre1 rfl) (k':=11) rfl ?_
   refine hd_nil kr kr (c':=c+22) rfl ?_
   refine h10 _<|hw_region<|sm<|sm ?_
   refine sn ?_
   refine sf fd_55_4 ?_
   refine sl ty_4 ?_
   refine sm ?_
   refine stg 78 (fun hb=>hop_fa fd_55_4 rfl) rfl rfl rfl rfl rfl ?_
   refine hq_g 80 5 78 true _ (fun hb=>hol_load ty_4 rfl (nb rfl) (nb rfl) rq) rfl rfl rfl rfl (pre1 rfl) rfl rfl rfl ?_
   refine hq_p 81 (hstep_and _ _ rfl rfl rfl) rfl rfl rfl ?_
   refine sn ?_
   refine sf fd_55_4 ?_
   refine sx (c+23) ty_4 ?_
   refine nu ?_
   refine hq_fall ?_
   refine hf_retR0 ok hX RetS.one rfl  [] rfl pre0 (()) (trivial) (by rfl) (by rfl) (kza) ?_
   exact ⟨⟨_,rfl,(okz_nd (by exact jn5 (.fz _ _ (.imm _)) (.os _ _ _ _ _ rfl rfl) (kz_bl (bun a.first b.first) rfl (by rw [join_first];simp [hc1])) (kz_bl (bun a.ends b.ends) rfl (by rw [join_ends];simp [hc2])) (kz_bo (a.empty&&b.empty) rfl (join_empty a b).symm)))⟩,⟨⟨_,rfl,(okz_lrow (fun p hp=>by rw [hie];exact linkI_end _ _ _ om))⟩,trivial⟩⟩
  have hr2:=hc2;(try simp only [hcs,Int.reduceToNat] at hc2)
  refine hw_region<|sm ?_
  refine sf fd_55_3 ?_
  refine sl ty_25 ?_
  refine sn ?_
  refine sf fd_55_3 ?_
  refine sx (c+12) ty_25 ?_
  refine snl h10<|hw_region<|sm<|sm ?_
  refine sn ?_
  refine sf fd_55_4 ?_
  refine sl ty_4 ?_
  refine sm ?_
  refine stg 78 (fun hb=>hop_fa fd_55_4 rfl) rfl rfl rfl rfl rfl ?_
  refine hq_g 80 5 78 true _ (fun hb=>hol_load ty_4 rfl (nb rfl) (nb rfl) rq) rfl rfl rfl rfl (pre1 rfl) rfl rfl rfl ?_
  refine hq_p 81 (hstep_and _ _ rfl rfl rfl) rfl rfl rfl ?_
  refine sn ?_
  refine sf fd_55_4 ?_
  refine sx (c+13) ty_4 ?_
  refine nu ?_
  refine hq_fall ?_
  refine hf_retR0 ok hX RetS.one rfl  [] rfl pre0 (()) (trivial) (by rfl) (by rfl) (kza) ?_
  exact ⟨⟨_,rfl,(okz_nd (by exact jn5 (.fz _ _ (.imm _)) (.os _ _ _ _ _ rfl rfl) (kz_bl (bun a.first b.first) rfl (by rw [join_first];simp [hc1])) (kz_bl (b.ends) rfl (by rw [join_ends];simp [hc2])) (kz_bo (a.empty&&b.empty) rfl (join_empty a b).symm)))⟩,⟨⟨_,rfl,(okz_lrow (fun p hp=>by rw [hie];exact linkI_end _ _ _ om))⟩,trivial⟩⟩
 have hr1:=hc1;(try simp only [hcs,Int.reduceToNat] at hc1)
 refine hw_skip<|h8 _<|hw_seq fun Nh12 h12=>srg fun N h13=>?_
 refine sf fd_55_4 ?_
 refine sl ty_4 ?_
 refine snl h13 ?_
 refine wc (fun hc2=>?_) (fun hc2=>?_)
 ·have hr2:=hc2;(try simp only [hcs,Int.reduceToNat] at hc2)
  refine hd_start ?_
  refine dm 1 ?_
  refine dm 2 ?_
  refine dk 3 ?_
  refine df 4 fd_55_3 ?_
  refine dl 5 ty_25 ?_
  refine df 6 fd_55_3 ?_
  refine dl 7 ty_25 ?_
  refine d0 8 (hop_call0 (xs:=[_,_]) (refOr_h a.ends b.ends) ⟨rfl,⟨rfl,trivial⟩⟩ ⟨fe,⟨fe,trivial⟩⟩) ?_
  refine dk 9 ?_
  refine df 10 fd_55_3 ?_
  refine hd_s1 (hol_store ty_25 rfl rfl rfl rfl (nb rfl) (nb rfl) (nb rfl)) rfl rfl (pre1 rfl) (k':=11) rfl ?_
  refine hd_nil kr kr (c':=c+11) rfl ?_
  refine h12 _<|hw_region<|sm<|sm ?_
  refine sn ?_
  refine sf fd_55_4 ?_
  refine sl ty_4 ?_
  refine sm ?_
  refine stg 78 (fun hb=>hop_fa fd_55_4 rfl) rfl rfl rfl rfl rfl ?_
  refine hq_g 80 5 78 true _ (fun hb=>hol_load ty_4 rfl (nb rfl) (nb rfl) rq) rfl rfl rfl rfl (pre1 rfl) rfl rfl rfl ?_
  refine hq_p 81 (hstep_and _ _ rfl rfl rfl) rfl rfl rfl ?_
  refine sn ?_
  refine sf fd_55_4 ?_
  refine sx (c+12) ty_4 ?_
  refine nu ?_
  refine hq_fall ?_
  refine hf_retR0 ok hX RetS.one rfl  [] rfl pre0 (()) (trivial) (by rfl) (by rfl) (kza) ?_
  exact ⟨⟨_,rfl,(okz_nd (by exact jn5 (.fz _ _ (.imm _)) (.os _ _ _ _ _ rfl rfl) (kz_bl (a.first) rfl (by rw [join_first];simp [hc1])) (kz_bl (bun a.ends b.ends) rfl (by rw [join_ends];simp [hc2])) (kz_bo (a.empty&&b.empty) rfl (join_empty a b).symm)))⟩,⟨⟨_,rfl,(okz_lrow (fun p hp=>by rw [hie];exact linkI_end _ _ _ om))⟩,trivial⟩⟩
 have hr2:=hc2;(try simp only [hcs,Int.reduceToNat] at hc2)
 refine hw_region<|sm ?_
 refine sf fd_55_3 ?_
 refine sl ty_25 ?_
 refine sn ?_
 refine sf fd_55_3 ?_
 refine sx (c+1) ty_25 ?_
 refine snl h12<|hw_region<|sm<|sm ?_
 refine sn ?_
 refine sf fd_55_4 ?_
 refine sl ty_4 ?_
 refine sm ?_
 refine stg 78 (fun hb=>hop_fa fd_55_4 rfl) rfl rfl rfl rfl rfl ?_
 refine hq_g 80 5 78 true _ (fun hb=>hol_load ty_4 rfl (nb rfl) (nb rfl) rq) rfl rfl rfl rfl (pre1 rfl) rfl rfl rfl ?_
 refine hq_p 81 (hstep_and _ _ rfl rfl rfl) rfl rfl rfl ?_
 refine sn ?_
 refine sf fd_55_4 ?_
 refine sx (c+2) ty_4 ?_
 refine nu ?_
 refine hq_fall ?_
 refine hf_retR0 ok hX RetS.one rfl  [] rfl pre0 (()) (trivial) (by rfl) (by rfl) (kza) ?_
 exact ⟨⟨_,rfl,(okz_nd (by exact jn5 (.fz _ _ (.imm _)) (.os _ _ _ _ _ rfl rfl) (kz_bl (a.first) rfl (by rw [join_first];simp [hc1])) (kz_bl (b.ends) rfl (by rw [join_ends];simp [hc2])) (kz_bo (a.empty&&b.empty) rfl (join_empty a b).symm)))⟩,⟨⟨_,rfl,(okz_lrow (fun p hp=>by rw [hie];exact linkI_end _ _ _ om))⟩,trivial⟩⟩
theorem seq_h9210 (a b:Pc) (ha:a.ok) (hb:b.ok) (M g1 g2 g3 g4:Nat) (ρ β:Nat→Bag) (p0:Pc) (hin:∀ p,p < 256→a.ends.has p=true→p < M) (hN:M≤256) :
  HFunD Tryz.prog 76 [.pt 9101 g1 0 0,.pt 9210 g4 0 0,ndV b] [(9101,ndO g1 (.os 9102 g2 0 M) (.os 9103 g3 0 M) p0),(9102,lrO g2 M ρ),(9103,lrO g3 M β),(9210,ndO g4 nilS nilS a)] (.tup 0 fun _=>default) [(9101,ndO g1 (.os 9102 g2 0 M) (.os 9103 g3 0 M) p0),(9102,lrO g2 M ρ),(9103,lrO g3 M (linkF β (a.ends,b.first))),(9210,ndO g4 nilS nilS (a.join b))]:=by
 intro c
 let k0:=c
 refine hfun_of Tryz.func76 rfl kr _ _ _ _ rfl 19 rfl rfl (fun X ok hX=>?_)
 refine srg fun N h1=>?_
 refine hm_1 5 (hop_box (id:=5) (sz:=5) rfl rfl rfl (nb rfl) (nb rfl)) rfl rfl pre0 rfl rfl (c':=c+1) rfl ?_
 refine snl h1<|srg fun N h2=>sm<|sm ?_
 refine sn ?_
 refine sf fd_55_1 ?_
 refine sl ty_53 ?_
 refine sn ?_
 refine sf fd_55_1 ?_
 refine sx (c+2) ty_53 ?_
 refine snl h2<|hw_seq fun Nh3 h3=>?_
 refine (hsub_ob 9210 (ndO g4 nilS (.os 9103 g3 0 M) a) rfl (by exact osub_nd (.refl _) (.refl _) (.refl _) (.refl _) (.refl _))).wp ?_
 refine hw_region<|sm ?_
 refine st1 (HOp.val (v':=ndV b) (hol_load ty_55 rfl (nb rfl) (nb rfl) (fun h=>(by cases h))) (rfl)) rfl rfl rfl ?_
 refine hm_ 15 (hop_funD (xs:=[_,_]) (pre:=[(9210,_),(9103,_)]) (then_h9210 a b ha hb M g3 g4 β hin hN) ((clocks_cons (.head _) rfl (clocks_cons (.tail _ (.head _)) rfl clocks_nil))) ⟨rfl,⟨rfl,trivial⟩⟩) rfl rfl (preC rfl (preC rfl pre0)) rfl rfl (c':=c+3) rfl ?_
 refine snl h3<|hw_region<|sm ?_
 refine sn ?_
 refine sf fd_55_1 ?_
 refine sx (c+4) ty_53 ?_
 refine hseq_nil ?_
 refine hq_fall ?_
 refine hf_retR0 ok hX RetS.one rfl  [] rfl pre0 (()) (trivial) (by rfl) (by rfl) (kza) ?_
 exact ⟨⟨_,rfl,(okz_nd (by exact jn5 (.os _ _ _ _ _ rfl rfl) (.os _ _ _ _ _ rfl rfl) (kz_bl p0.first rfl rfl) (kz_bl p0.ends rfl rfl) (kz_bo p0.empty rfl rfl)))⟩,⟨⟨_,rfl,(okz_lrow (fun _ _=>rfl))⟩,⟨⟨_,rfl,(okz_lrow (fun _ _=>rfl))⟩,⟨⟨_,rfl,(okz_nd (by exact jn5 (.fz _ _ (.imm _)) (.fz _ _ (.imm _)) (kz_bl (a.join b).first rfl rfl) (kz_bl (a.join b).ends rfl rfl) (kz_bo (a.join b).empty rfl rfl)))⟩,trivial⟩⟩⟩⟩
theorem then_h9224 (a b:Pc) (ha:a.ok) (hb:b.ok) (M g3 g4:Nat) (β:Nat→Bag) (hin:∀ p,p < 256→a.ends.has p=true→p < M) (hN:M≤256) :
  HFunD Tryz.prog 96 [.pt 9224 g4 0 0,ndV b] [(9224,ndO g4 nilS (.os 9103 g3 0 M) a),(9103,lrO g3 M β)] (.tup 0 fun _=>default) [(9224,ndO g4 nilS (.os 9103 g3 0 M) (a.join b)),(9103,lrO g3 M (linkF β (a.ends,b.first)))]:=by
 intro c
 let k0:=c
 have hle:=list_le a.ends
 refine hfun_of Tryz.func96 rfl kr _ _ _ _ rfl 84 rfl rfl (fun X ok hX=>?_)
 refine srg fun N h1=>?_
 refine hm_1 3 (hop_box (id:=3) (sz:=5) rfl rfl rfl (nb rfl) (nb rfl)) rfl rfl pre0 rfl rfl (c':=c+1) rfl ?_
 refine snl h1<|hw_seq fun Nh2 h2=>srg fun N h3=>sa<|snl h3<|hw_block ?_
 refine hw_loopc (α:=Nat) (fun x c=>⟨84,[(0,.v (.pt 9224 g4 0 0)),(3,.v (.pt 3 k0 0 0)),(4,.v (intV x))],[(9224,ndO g4 nilS (.os 9103 g3 0 M) a),(9103,lrO g3 M (linkI a.ends b.first β x)),(3,⟨k0,1,5,55,0,ndF nilS nilS b⟩)],c⟩) (fun x=>x≤a.ends.list.length) (fun x=>a.ends.list.length - x) (0) om (hsub_of rfl (Nat.le_refl _) tsa (hsr rfl (HpSub.cons rfl (OSub.of fun i j hi hj=>by show Sb (iListV (β i).list) (iListV (linkI a.ends b.first β 0 i).list);rw [linkI_zero];exact .refl _) (HpSub.cons rfl (OSub.of fun i j hi hj=>by obtain rfl:i=0:=om;exact jn5 (P:=fun j=>Sb (ndF nilS nilS b 0 j) (ndF nilS nilS b 0 j)) (.refl _) (.refl _) (.refl _) (.refl _) (.refl _) j hj) HpSub.nil)))) (fun i c hx NhL4 hL4=>?_)
 (try dsimp only at hx hL4 ⊢)
 refine hw_seq fun Nh5 h5=>srg fun N h6=>sm<|sm ?_
 refine sn ?_
 refine sf fd_55_3 ?_
 refine sl ty_25 ?_
 refine s0 (hnl el_25) ?_
 refine s0 hli ?_
 refine snl h6 ?_
 refine wc (fun hc0=>?_) (fun hc0=>?_)
 ·have hr0:=hc0;(try simp only [hcs,Int.reduceToNat] at hc0)
  have hi':i < a.ends.list.length:=om;obtain ⟨q,hq256,hqA,hq⟩:=list_lt a.ends hi';have hqN:=hin q hq256 hqA
  refine hw_skip<|h5 _<|hw_seq fun Nh7 h7=>hw_block<|hd_start ?_
  refine dm 1 ?_
  refine dk 2 ?_
  refine d0 3 (HOp.val (v':=HV.pt 9224 g4 0 1) (hop_fa fd_55_1 rfl) (rfl)) ?_
  refine dl 4 ty_53 ?_
  refine dm 5 ?_
  refine dk 6 ?_
  refine df 7 fd_55_3 ?_
  refine dl 8 ty_25 ?_
  refine dm 9 ?_
  refine d0 10 (hix el_25) ?_
  refine d0 11 (HOp.val (v':=intV (q:Int)) (hop_load_fp ty_3 rfl (nb rfl) (fun h=>(by rfl))) (congrArg intV hq)) ?_
  refine dm 12 ?_
  refine dk 13 ?_
  refine df 14 fd_55_1 ?_
  refine dl 15 ty_53 ?_
  refine dm 16 ?_
  refine dk 17 ?_
  refine df 18 fd_55_3 ?_
  refine dl 19 ty_25 ?_
  refine dm 20 ?_
  refine d0 21 (hix el_25) ?_
  refine d0 22 (HOp.val (v':=intV (q:Int)) (hop_load_fp ty_3 rfl (nb rfl) (fun h=>(by rfl))) (congrArg intV hq)) ?_
  refine hd_q 36 (hol_ia_os el_53 rfl rfl om om) rfl rfl (pre1 rfl) rfl rfl (k':=23) rfl ?_
  refine hd_q 37 (hol_load ty_25 rfl om (nb rfl) rq) rfl rfl (pre1 rfl) rfl rfl (k':=24) rfl ?_
  refine df 25 fd_55_2 ?_
  refine dl 26 ty_25 ?_
  refine d0 27 (hop_call0 (xs:=[_,_]) (refOr_h (linkI a.ends b.first β i q) b.first) ⟨rfl,⟨rfl,trivial⟩⟩ ⟨(Fz.eq (by rw [Nat.zero_add];rfl)),⟨(Fz.eq rfl),trivial⟩⟩) ?_
  refine hd_q 41 (hol_ia_os el_53 rfl rfl om om) rfl rfl (pre1 rfl) rfl rfl (k':=28) rfl ?_
  refine hd_s1 (hol_store ty_25 rfl rfl rfl rfl om (nb rfl) (nb rfl)) rfl rfl (pre1 rfl) (k':=29) rfl ?_
  refine hd_nil kr kr (c':=c+29) rfl ?_
  refine hq_block<|h7 _<|hw_region<|sm ?_
  refine s0 hai ?_
  refine sa<|hseq_nil ?_
  exact hL4 (i+1) _ _ (by (try dsimp only);omega) (by (try dsimp only);omega) (hsub_of rfl (Nat.le_refl _) tsa (hsr rfl (HpSub.cons rfl (osub_lrow fun p hp=>upd_lrow.trans (by rw [linkI_succ a.ends b.first β hi' hq,Nat.zero_add];rfl)) hsa)))
 have hr0:=hc0;(try simp only [hcs,Int.reduceToNat] at hc0)
 have hie:i=a.ends.list.length:=om
 refine hw_exit ?_
 refine hq_then_exit<|hq_then_exit<|hq_block_here<|h2 _<|hw_seq fun Nh8 h8=>srg fun N h9=>sm ?_
 refine sn ?_
 refine sf fd_55_4 ?_
 refine sl ty_4 ?_
 refine snl h9 ?_
 refine wc (fun hc1=>?_) (fun hc1=>?_)
 ·have hr1:=hc1;(try simp only [hcs,Int.reduceToNat] at hc1)
  refine hd_start ?_
  refine dm 1 ?_
  refine dm 2 ?_
  refine dk 3 ?_
  refine df 4 fd_55_2 ?_
  refine dl 5 ty_25 ?_
  refine df 6 fd_55_2 ?_
  refine dl 7 ty_25 ?_
  refine d0 8 (hop_call0 (xs:=[_,_]) (refOr_h a.first b.first) ⟨rfl,⟨rfl,trivial⟩⟩ ⟨fe,⟨fe,trivial⟩⟩) ?_
  refine dk 9 ?_
  refine df 10 fd_55_2 ?_
  refine hd_s1 (hol_store ty_25 rfl rfl rfl rfl (nb rfl) (nb rfl) (nb rfl)) rfl rfl (pre1 rfl) (k':=11) rfl ?_
  refine hd_nil kr kr (c':=c+11) rfl ?_
  refine h8 _<|hw_seq fun Nh10 h10=>srg fun N h11=>?_
  refine sf fd_55_4 ?_
  refine sl ty_4 ?_
  refine snl h11 ?_
  refine wc (fun hc2=>?_) (fun hc2=>?_)
  ·have hr2:=hc2;(try simp only [hcs,Int.reduceToNat] at hc2)
   refine hd_start ?_
   refine dm 1 ?_
   refine dm 2 ?_
   refine dk 3 ?_
   refine df 4 fd_55_3 ?_
   refine dl 5 ty_25 ?_
   refine df 6 fd_55_3 ?_
   refine dl 7 ty_25 ?_
   refine d0 8 (hop_call0 (xs:=[_,_]) (refOr_h a.ends b.ends) ⟨rfl,⟨rfl,trivial⟩⟩ ⟨fe,⟨fe,trivial⟩⟩) ?_
   refine dk 9 ?_
   refine df 10 fd_55_3 ?_
   refine hd_s1 (hol_store ty_25 rfl rfl rfl rfl (nb rfl) (nb rfl) (nb rfl)) rfl rfl (pre1 rfl) (k':=11) rfl ?_
   refine hd_nil kr kr (c':=c+22) rfl ?_
   refine h10 _<|hw_region<|sm<|sm ?_
   refine sn ?_
   refine sf fd_55_4 ?_
   refine sl ty_4 ?_
   refine sm ?_
   refine stg 78 (fun hb=>hop_fa fd_55_4 rfl) rfl rfl rfl rfl rfl ?_
   refine hq_g 80 5 78 true _ (fun hb=>hol_load ty_4 rfl (nb rfl) (nb rfl) rq) rfl rfl rfl rfl (pre1 rfl) rfl rfl rfl ?_
   refine hq_p 81 (hstep_and _ _ rfl rfl rfl) rfl rfl rfl ?_
   refine sn ?_
   refine sf fd_55_4 ?_
   refine sx (c+23) ty_4 ?_
   refine nu ?_
   refine hq_fall ?_
   refine hf_retR0 ok hX RetS.one rfl  [] rfl pre0 (()) (trivial) (by rfl) (by rfl) (kza) ?_
   exact ⟨⟨_,rfl,(okz_nd (by exact jn5 (.fz _ _ (.imm _)) (.os _ _ _ _ _ rfl rfl) (kz_bl (bun a.first b.first) rfl (by rw [join_first];simp [hc1])) (kz_bl (bun a.ends b.ends) rfl (by rw [join_ends];simp [hc2])) (kz_bo (a.empty&&b.empty) rfl (join_empty a b).symm)))⟩,⟨⟨_,rfl,(okz_lrow (fun p hp=>by rw [hie];exact linkI_end _ _ _ om))⟩,trivial⟩⟩
  have hr2:=hc2;(try simp only [hcs,Int.reduceToNat] at hc2)
  refine hw_region<|sm ?_
  refine sf fd_55_3 ?_
  refine sl ty_25 ?_
  refine sn ?_
  refine sf fd_55_3 ?_
  refine sx (c+12) ty_25 ?_
  refine snl h10<|hw_region<|sm<|sm ?_
  refine sn ?_
  refine sf fd_55_4 ?_
  refine sl ty_4 ?_
  refine sm ?_
  refine stg 78 (fun hb=>hop_fa fd_55_4 rfl) rfl rfl rfl rfl rfl ?_
  refine hq_g 80 5 78 true _ (fun hb=>hol_load ty_4 rfl (nb rfl) (nb rfl) rq) rfl rfl rfl rfl (pre1 rfl) rfl rfl rfl ?_
  refine hq_p 81 (hstep_and _ _ rfl rfl rfl) rfl rfl rfl ?_
  refine sn ?_
  refine sf fd_55_4 ?_
  refine sx (c+13) ty_4 ?_
  refine nu ?_
  refine hq_fall ?_
  refine hf_retR0 ok hX RetS.one rfl  [] rfl pre0 (()) (trivial) (by rfl) (by rfl) (kza) ?_
  exact ⟨⟨_,rfl,(okz_nd (by exact jn5 (.fz _ _ (.imm _)) (.os _ _ _ _ _ rfl rfl) (kz_bl (bun a.first b.first) rfl (by rw [join_first];simp [hc1])) (kz_bl (b.ends) rfl (by rw [join_ends];simp [hc2])) (kz_bo (a.empty&&b.empty) rfl (join_empty a b).symm)))⟩,⟨⟨_,rfl,(okz_lrow (fun p hp=>by rw [hie];exact linkI_end _ _ _ om))⟩,trivial⟩⟩
 have hr1:=hc1;(try simp only [hcs,Int.reduceToNat] at hc1)
 refine hw_skip<|h8 _<|hw_seq fun Nh12 h12=>srg fun N h13=>?_
 refine sf fd_55_4 ?_
 refine sl ty_4 ?_
 refine snl h13 ?_
 refine wc (fun hc2=>?_) (fun hc2=>?_)
 ·have hr2:=hc2;(try simp only [hcs,Int.reduceToNat] at hc2)
  refine hd_start ?_
  refine dm 1 ?_
  refine dm 2 ?_
  refine dk 3 ?_
  refine df 4 fd_55_3 ?_
  refine dl 5 ty_25 ?_
  refine df 6 fd_55_3 ?_
  refine dl 7 ty_25 ?_
  refine d0 8 (hop_call0 (xs:=[_,_]) (refOr_h a.ends b.ends) ⟨rfl,⟨rfl,trivial⟩⟩ ⟨fe,⟨fe,trivial⟩⟩) ?_
  refine dk 9 ?_
  refine df 10 fd_55_3 ?_
  refine hd_s1 (hol_store ty_25 rfl rfl rfl rfl (nb rfl) (nb rfl) (nb rfl)) rfl rfl (pre1 rfl) (k':=11) rfl ?_
  refine hd_nil kr kr (c':=c+11) rfl ?_
  refine h12 _<|hw_region<|sm<|sm ?_
  refine sn ?_
  refine sf fd_55_4 ?_
  refine sl ty_4 ?_
  refine sm ?_
  refine stg 78 (fun hb=>hop_fa fd_55_4 rfl) rfl rfl rfl rfl rfl ?_
  refine hq_g 80 5 78 true _ (fun hb=>hol_load ty_4 rfl (nb rfl) (nb rfl) rq) rfl rfl rfl rfl (pre1 rfl) rfl rfl rfl ?_
  refine hq_p 81 (hstep_and _ _ rfl rfl rfl) rfl rfl rfl ?_
  refine sn ?_
  refine sf fd_55_4 ?_
  refine sx (c+12) ty_4 ?_
  refine nu ?_
  refine hq_fall ?_
  refine hf_retR0 ok hX RetS.one rfl  [] rfl pre0 (()) (trivial) (by rfl) (by rfl) (kza) ?_
  exact ⟨⟨_,rfl,(okz_nd (by exact jn5 (.fz _ _ (.imm _)) (.os _ _ _ _ _ rfl rfl) (kz_bl (a.first) rfl (by rw [join_first];simp [hc1])) (kz_bl (bun a.ends b.ends) rfl (by rw [join_ends];simp [hc2])) (kz_bo (a.empty&&b.empty) rfl (join_empty a b).symm)))⟩,⟨⟨_,rfl,(okz_lrow (fun p hp=>by rw [hie];exact linkI_end _ _ _ om))⟩,trivial⟩⟩
 have hr2:=hc2;(try simp only [hcs,Int.reduceToNat] at hc2)
 refine hw_region<|sm ?_
 refine sf fd_55_3 ?_
 refine sl ty_25 ?_
 refine sn ?_
 refine sf fd_55_3 ?_
 refine sx (c+1) ty_25 ?_
 refine snl h12<|hw_region<|sm<|sm ?_
 refine sn ?_
 refine sf fd_55_4 ?_
 refine sl ty_4 ?_
 refine sm ?_
 refine stg 78 (fun hb=>hop_fa fd_55_4 rfl) rfl rfl rfl rfl rfl ?_
 refine hq_g 80 5 78 true _ (fun hb=>hol_load ty_4 rfl (nb rfl) (nb rfl) rq) rfl rfl rfl rfl (pre1 rfl) rfl rfl rfl ?_
 refine hq_p 81 (hstep_and _ _ rfl rfl rfl) rfl rfl rfl ?_
 refine sn ?_
 refine sf fd_55_4 ?_
 refine sx (c+2) ty_4 ?_
 refine nu ?_
 refine hq_fall ?_
 refine hf_retR0 ok hX RetS.one rfl  [] rfl pre0 (()) (trivial) (by rfl) (by rfl) (kza) ?_
 exact ⟨⟨_,rfl,(okz_nd (by exact jn5 (.fz _ _ (.imm _)) (.os _ _ _ _ _ rfl rfl) (kz_bl (a.first) rfl (by rw [join_first];simp [hc1])) (kz_bl (b.ends) rfl (by rw [join_ends];simp [hc2])) (kz_bo (a.empty&&b.empty) rfl (join_empty a b).symm)))⟩,⟨⟨_,rfl,(okz_lrow (fun p hp=>by rw [hie];exact linkI_end _ _ _ om))⟩,trivial⟩⟩
theorem seq_h9224 (a b:Pc) (ha:a.ok) (hb:b.ok) (M g1 g2 g3 g4:Nat) (ρ β:Nat→Bag) (p0:Pc) (hin:∀ p,p < 256→a.ends.has p=true→p < M) (hN:M≤256) :
  HFunD Tryz.prog 76 [.pt 9101 g1 0 0,.pt 9224 g4 0 0,ndV b] [(9101,ndO g1 (.os 9102 g2 0 M) (.os 9103 g3 0 M) p0),(9102,lrO g2 M ρ),(9103,lrO g3 M β),(9224,ndO g4 nilS nilS a)] (.tup 0 fun _=>default) [(9101,ndO g1 (.os 9102 g2 0 M) (.os 9103 g3 0 M) p0),(9102,lrO g2 M ρ),(9103,lrO g3 M (linkF β (a.ends,b.first))),(9224,ndO g4 nilS nilS (a.join b))]:=by
 intro c
 let k0:=c
 refine hfun_of Tryz.func76 rfl kr _ _ _ _ rfl 19 rfl rfl (fun X ok hX=>?_)
 refine srg fun N h1=>?_
 refine hm_1 5 (hop_box (id:=5) (sz:=5) rfl rfl rfl (nb rfl) (nb rfl)) rfl rfl pre0 rfl rfl (c':=c+1) rfl ?_
 refine snl h1<|srg fun N h2=>sm<|sm ?_
 refine sn ?_
 refine sf fd_55_1 ?_
 refine sl ty_53 ?_
 refine sn ?_
 refine sf fd_55_1 ?_
 refine sx (c+2) ty_53 ?_
 refine snl h2<|hw_seq fun Nh3 h3=>?_
 refine (hsub_ob 9224 (ndO g4 nilS (.os 9103 g3 0 M) a) rfl (by exact osub_nd (.refl _) (.refl _) (.refl _) (.refl _) (.refl _))).wp ?_
 refine hw_region<|sm ?_
 refine st1 (HOp.val (v':=ndV b) (hol_load ty_55 rfl (nb rfl) (nb rfl) (fun h=>(by cases h))) (rfl)) rfl rfl rfl ?_
 refine hm_ 15 (hop_funD (xs:=[_,_]) (pre:=[(9224,_),(9103,_)]) (then_h9224 a b ha hb M g3 g4 β hin hN) ((clocks_cons (.head _) rfl (clocks_cons (.tail _ (.head _)) rfl clocks_nil))) ⟨rfl,⟨rfl,trivial⟩⟩) rfl rfl (preC rfl (preC rfl pre0)) rfl rfl (c':=c+3) rfl ?_
 refine snl h3<|hw_region<|sm ?_
 refine sn ?_
 refine sf fd_55_1 ?_
 refine sx (c+4) ty_53 ?_
 refine hseq_nil ?_
 refine hq_fall ?_
 refine hf_retR0 ok hX RetS.one rfl  [] rfl pre0 (()) (trivial) (by rfl) (by rfl) (kza) ?_
 exact ⟨⟨_,rfl,(okz_nd (by exact jn5 (.os _ _ _ _ _ rfl rfl) (.os _ _ _ _ _ rfl rfl) (kz_bl p0.first rfl rfl) (kz_bl p0.ends rfl rfl) (kz_bo p0.empty rfl rfl)))⟩,⟨⟨_,rfl,(okz_lrow (fun _ _=>rfl))⟩,⟨⟨_,rfl,(okz_lrow (fun _ _=>rfl))⟩,⟨⟨_,rfl,(okz_nd (by exact jn5 (.fz _ _ (.imm _)) (.fz _ _ (.imm _)) (kz_bl (a.join b).first rfl rfl) (kz_bl (a.join b).ends rfl rfl) (kz_bo (a.join b).empty rfl rfl)))⟩,trivial⟩⟩⟩⟩
@[reducible] def netD (g1 g2 g3 M:Nat) (on:List Bag) (β:Nat→Bag) (p0:Pc):List (Nat×HObj):=[(9101,ndO g1 (.os 9102 g2 0 M) (.os 9103 g3 0 M) p0),(9102,lrO g2 M (onF on)),(9103,lrO g3 M β)]
def LayD (l:List Mn) (e:List Pt) (b:Nat) (t:T):Prop:=∀ (c g1 g2 g3 M:Nat) (on:List Bag) (β:Nat→Bag) (p0:Pc),on.length=M→M+t.w≤256→(∀ p,(β p).ok)→(∀ p,M≤p→p < 256→β p=Bag.zero) →
 HFun Tryz.prog 56 c [.pt 9101 g1 0 0,ptsV e,intV ((b+t.size - 1:Nat):Int),mnsV l] (netD g1 g2 g3 M on β p0) (RetP (fun (y:Nat×Nat) _=>True) (fun _=>ndV (lay (meansV l) t M).pc) (fun y=>netD g1 y.1 y.2 (M+t.w) (on++(lay (meansV l) t M).on) (links β (lay (meansV l) t M).lk) p0))
theorem single_list (n:Nat) (hn:n < 256):(single n).list=[(n:Int)]:=by
 rw [Bag.list_eq]
 have:(List.range 256).filter (single n).has=[n]:=by
  have h:(List.range 256).filter (single n).has=(List.range 256).filter (fun k=>k == n):=by
   apply List.filter_congr
   intro k hk
   rw [single_has n k (List.mem_range.1 hk)]
   by_cases e:k=n <;> simp [e]
  rw [h,List.filter_beq,List.count_range]
  simp [hn]
 rw [this];rfl
theorem sb_zl:Sb nilS (iListV Bag.zero.list):=by rw [zero_list];exact .nil 0 1 _ (by decide) none
theorem osub_nd0 {g:Nat} {f:Nat→Nat→HV} {p:Pc} (h0:f 0 0=nilS) (h1:f 0 1=nilS) (h2:f 0 2=nilS) (h3:f 0 3=nilS) (h4:f 0 4=boolV p.empty) (h5:p.first=Bag.zero) (h6:p.ends=Bag.zero):OSub ⟨g,1,5,55,0,f⟩ (ndO g nilS nilS p):=by
 refine osub_nd ?_ ?_ ?_ ?_ ?_
 ·rw [h0];exact .refl _
 ·rw [h1];exact .refl _
 ·rw [h2];show Sb nilS (iListV p.first.list);rw [h5];exact sb_zl
 ·rw [h3];show Sb nilS (iListV p.ends.list);rw [h6];exact sb_zl
 ·rw [h4];exact .refl _
theorem osub_ndv {g:Nat} {f:Nat→Nat→HV} {p:Pc} (h:∀ j,j < 5→f 0 j=ndF nilS nilS p 0 j):OSub ⟨g,1,5,55,0,f⟩ (ndO g nilS nilS p):=OSub.of fun i j hi hj=>by
 obtain rfl:i=0:=by omega
 rw [h j hj];exact .refl _
theorem kz_nd {kp sh:List (Nat×HObj)} {f:Nat→HV} {p:Pc} (h:∀ j,j < 5→f j=ndF nilS nilS p 0 j):Kz kp sh (.agg 5 f) (ndV p):=.fz _ _ (.agg _ _ _ fun j hj=>by rw [h j hj];exact fz_ndF p j)
theorem okz_netD {kp sh:List (Nat×HObj)} {g1 g2 g3 M:Nat} {o2 o3:HObj} {p0:Pc} (h2:hget kp 9102=some o2) (e2:o2.g=g2) (h3:hget kp 9103=some o3) (e3:o3.g=g3):OKz kp sh (ndO g1 (.os 9102 g2 0 M) (.os 9103 g3 0 M) p0) (ndO g1 (.os 9102 g2 0 M) (.os 9103 g3 0 M) p0) :=
 okz_nd (by exact jn5 (.os _ _ _ _ _ h2 e2) (.os _ _ _ _ _ h3 e3) (kz_bl p0.first rfl rfl) (kz_bl p0.ends rfl rfl) (kz_bo p0.empty rfl rfl))
@[reducible] def ndsF (l:List Pc):Nat→Nat→HV:=fun i=>ndF nilS nilS (l.getD i default) 0
theorem clkS {i:Nat} {o1 o2 o3 o4 p1 p2 p3 p4:HObj} (h1:p1.g=o1.g) (h2:p2.g=o2.g) (h3:p3.g=o3.g) (h4:p4.g=o4.g):Clocks [(9101,o1),(9102,o2),(9103,o3),(i,o4)] [(9101,p1),(9102,p2),(9103,p3),(i,p4)] :=
 clocks_cons (.head _) h1.symm (clocks_cons (.tail _ (.head _)) h2.symm (clocks_cons (.tail _ (.tail _ (.head _))) h3.symm (clocks_cons (.tail _ (.tail _ (.tail _ (.head _)))) h4.symm clocks_nil)))
theorem osub_lcat {g M:Nat} {γ γ':Nat→Bag} {L:List HV} (h1:∀ i,i < M→γ i=γ' i) (h2:Sb (bsf L 0 0) (iListV (γ' M).list)):OSub ⟨g,M+1,1,25,0,cat M (lrF γ) (bsf L)⟩ (lrO g (M+1) γ'):=OSub.of fun i j hi hj=>by
 obtain rfl:j=0:=by omega
 unfold cat
 by_cases h:i < M
 ·have e:Nat.blt i M=true:=by simpa [Nat.blt_eq] using h
  rw [e];show Sb (iListV (γ i).list) (iListV (γ' i).list);rw [h1 i h];exact .refl _
 ·obtain rfl:i=M:=by omega
  have e:Nat.blt i i=false:=by rw [Bool.eq_false_iff];intro h';simp [Nat.blt_eq] at h'
  rw [e];show Sb (bsf L (i - i) 0) _;rw [Nat.sub_self];exact h2
theorem kz_sg {kp sh:List (Nat×HObj)} {id g fl M:Nat} {ty:TypeId} {f:Nat→Nat→HV} (ho:(id,(⟨g,1,1,ty,fl,f⟩:HObj))∈sh) (hf:f 0 0=intV (M:Int)) (h:M < 256):Kz kp sh (.os id g 0 1) (iListV (single M).list):=by
 rw [single_list M h]
 exact .fz _ _ (fz_row (l:=[(M:Int)]) (enc:=fun x _=>intV x) (d:=0) ho rfl rfl (Nat.le_refl _) (fun i j hi hj=>by
  obtain rfl:i=0:=by simpa using hi
  obtain rfl:j=0:=by have:j < 1:=hj;omega
  show Fz sh (f 0 0) (intV (M:Int));rw [hf];exact .imm _))
theorem kind2 {t:T} (hok:t.ok=true) (h1:t.kind≠1) (h3:t.kind≠3) (h2:t.kind≠2):t.kind=4:=by
 rcases kind_ok hok with h | h | h | h
 ·exact absurd h h1
 ·exact absurd h h2
 ·exact absurd h h3
 ·exact h
theorem part_row (l:List Mn) (hB:MnB l) (e:List Pt) (he:e.length≤100000) (b:Nat) (t:T) (hk4:t.kind≠4) (hok:t.ok=true) (hat:AtP e b (T.flat b t)) (hkl:t.kidsT.length≤100000)
  (ih:∀ i,i < t.kidsT.length→LayD l e (b+T.sizeL (t.kidsT.take i)) (t.kidsT.getD i default)):LayD l e b t:=by
 intro c g1 g2 g3 M0 on β p0 hon hw hβ hz
 have htop:=at_top hat
 have hps:=t.size_pos
 have hkid:=top_kids b t
 have hrl:=rootsL_len t.kidsT b
 generalize htp:t.top b=p at htop hkid
 have hpk:p.kind=t.kind:=by rw [←htp];exact top_kind b t
 obtain ⟨m,hm⟩:∃ m,m=meansV l:=⟨_,rfl⟩
 have hmo:∀ s,(m s).ok:=by rw [hm];exact means_ok l
 rw [←hm]
 let k0:=c
 refine hfun_of Tryz.func56 rfl kr _ _ _ _ rfl 233 rfl rfl (fun X ok hX=>?_)
 refine srg fun N h1=>?_
 refine hm_1 8 (hop_alloc (id:=9208) (sz:=5) zc_55 rfl rfl (nb rfl) (nb rfl)) rfl rfl pre0 rfl rfl (c':=c+1) rfl ?_
 refine snl h1<|srg fun N h2=>sm<|sm ?_
 refine s0 (hix el_22) ?_
 refine s0 (HOp.val (v':=ptH p) (hop_load_fp ty_27 rfl (nb rfl) (fun h=>(by cases h))) (pt_at (by omega) htop.1)) ?_
 refine hm_1 9 (hop_alloc (id:=9209) (sz:=5) zc_27 rfl rfl (nb rfl) (nb rfl)) rfl rfl pre0 rfl rfl (c':=c+2) rfl ?_
 refine sw (c+3) ty_27 ?_
 refine snl h2<|srg fun N h3=>?_
 refine s0 (hop_build (hs:=[]) st_55 rfl rfl trivial) ?_
 refine hm_1 10 (hop_alloc (id:=9210) (sz:=5) zc_55 rfl rfl (nb rfl) (nb rfl)) rfl rfl pre0 rfl rfl (c':=c+4) rfl ?_
 refine sw (c+5) ty_55 ?_
 refine snl h3<|hw_seq fun Nh4 h4=>srg fun N h5=>?_
 refine sf fd_27_0 ?_
 refine sl ty_3 ?_
 refine s0 hqi ?_
 refine snl h5 ?_
 refine wc (fun hc0=>?_) (fun hc0=>?_)
 ·have hr0:=hc0;(try simp only [hcs,Int.reduceToNat] at hc0)
  obtain ⟨s,hts⟩:=w_nm (by rw [←hpk];exact hc0) hok;have hpn:p.name=s:=(by rw [←htp,hts];rfl);have hl1:lay m t M0=⟨[m s],[],⟨single M0,single M0,false⟩⟩:=(by rw [hts];simp [lay]);have hw1:t.w=1:=(by rw [hts];rfl)
  refine srg fun N h6=>sm ?_
  refine sn ?_
  refine sf fd_55_0 ?_
  refine sl ty_53 ?_
  refine s0 (hop_len_os (T:=53) rfl (elOf_spec el_53).1 rfl) ?_
  refine sa<|snl h6<|hw_seq fun Nh7 h7=>hd_start ?_
  refine dm 1 ?_
  refine dm 2 ?_
  refine dk 3 ?_
  refine df 4 fd_55_0 ?_
  refine dl 5 ty_53 ?_
  refine dm 6 ?_
  refine df 7 fd_27_3 ?_
  refine dl 8 ty_9 ?_
  refine d0 9 (hop_call0 (xs:=[_,_]) (means_h l hB p.name) ⟨rfl,⟨rfl,trivial⟩⟩ ⟨fe,⟨fe,trivial⟩⟩) ?_
  refine hd_1 47 (hop_buildSlice (id:=9247) (hs:=[_]) ei_53 (nb rfl) rfl (nb rfl) ⟨rfl,rfl,rfl,rfl,trivial⟩) rfl rfl pre0 rfl rfl (k':=10) rfl ?_
  refine hd_1 48 (hol_append ei_53 (nb rfl) rfl om (nb rfl) (srl_os0 rfl (nb rfl)) om rfl) rfl rfl (preC rfl (pre1 rfl)) rfl rfl (k':=11) rfl ?_
  refine dk 12 ?_
  refine df 13 fd_55_0 ?_
  refine hd_s1 (hol_store ty_53 rfl rfl rfl rfl (nb rfl) (nb rfl) (nb rfl)) rfl rfl (pre1 rfl) (k':=14) rfl ?_
  refine hd_nil kr kr (c':=c+19) rfl ?_
  refine h7 _<|srg fun N h8=>sm<|sm ?_
  refine sn ?_
  refine sf fd_55_1 ?_
  refine sl ty_53 ?_
  refine hm_1 56 (hop_buildSlice (id:=9256) (hs:=[_]) ei_53 (nb rfl) rfl (nb rfl) ⟨rfl,rfl,rfl,rfl,trivial⟩) rfl rfl pre0 rfl rfl (c':=c+20) rfl ?_
  refine hm_1 57 (hol_append ei_53 (nb rfl) rfl om (nb rfl) (srl_os0 rfl (nb rfl)) om rfl) rfl rfl (preC rfl (pre1 rfl)) rfl rfl (c':=c+21) rfl ?_
  refine sn ?_
  refine sf fd_55_1 ?_
  refine sx (c+22) ty_53 ?_
  refine snl h8<|hw_seq fun Nh9 h9=>?_
  have hsn:=onF_snoc hon (m p.name);refine (hsub_ob 9101 (ndO g1 (.os 9102 (c+5+10) 0 (M0+1)) (.os 9103 (c+20) 0 (M0+1)) p0) rfl (by exact osub_nd (.refl _) (.refl _) (.refl _) (.refl _) (.refl _))).wp ?_;refine (hsub_ob 9102 (lrO (c+5+10) (M0+1) (onF (on++[m p.name]))) rfl (by exact osub_lcat hsn.1 (by rw [hsn.2,hm];exact .refl _))).wp ?_;refine (hsub_ob 9103 (lrO (c+20) (M0+1) β) rfl (by exact osub_lcat (fun _ _=>rfl) (by rw [hz M0 (Nat.le_refl _) om];exact sb_zl))).wp ?_
  refine hw_region<|sm ?_
  refine hm_1 61 (hop_buildSlice (id:=9261) (hs:=[_]) ei_25 (nb rfl) rfl (nb rfl) ⟨rfl,rfl,rfl,rfl,trivial⟩) rfl rfl pre0 rfl rfl (c':=c+23) rfl ?_
  refine sf fd_55_2 ?_
  refine sx (c+24) ty_25 ?_
  refine snl h9<|srg fun N h10=>sm ?_
  refine hm_1 64 (hop_buildSlice (id:=9264) (hs:=[_]) ei_25 (nb rfl) rfl (nb rfl) ⟨rfl,rfl,rfl,rfl,trivial⟩) rfl rfl pre0 rfl rfl (c':=c+25) rfl ?_
  refine sf fd_55_3 ?_
  refine sx (c+26) ty_25 ?_
  refine snl h10<|srg fun N h11=>?_
  refine sl ty_55 ?_
  refine sw (c+27) ty_55 ?_
  refine snl h11<|hw_ret<|hq_then_ret ?_
  refine hf_retR1 ok hX RetS.one rfl (rvl_cell rfl rfl ty_55 rqc rfl rfl) [(9261,_),(9264,_)] rfl (preC rfl (preC rfl pre0)) ((c+5+10,c+20)) (trivial) (by rfl) (by rfl) ((by rw [hl1];exact .agg 5 _ _ (by exact jn5 (.fz _ _ (.imm _)) (.fz _ _ (.imm _)) (kz_sg (.head _) rfl om) (kz_sg (.tail _ (.head _)) rfl om) (.fz _ _ (.imm _))))) ?_
  exact ⟨⟨_,rfl,(by rw [hw1];exact okz_netD rfl rfl rfl rfl)⟩,⟨⟨_,rfl,(by rw [hw1,hl1,←hpn];exact okz_lrow (fun _ _=>rfl))⟩,⟨⟨_,rfl,(by rw [hw1,hl1];exact okz_lrow (fun _ _=>rfl))⟩,trivial⟩⟩⟩
 have hr0:=hc0;(try simp only [hcs,Int.reduceToNat] at hc0)
 refine hw_skip<|h4 _<|hw_seq fun Nh12 h12=>srg fun N h13=>?_
 refine sf fd_27_0 ?_
 refine sl ty_3 ?_
 refine s0 hqi ?_
 refine snl h13 ?_
 refine wc (fun hc1=>?_) (fun hc1=>?_)
 ·have hr1:=hc1;(try simp only [hcs,Int.reduceToNat] at hc1)
  have hkd3:t.kind=3:=(by rw [←hpk];exact hc1);have hwm:=w_many (t:=t) (by rw [hkd3];decide) (by rw [hkd3];decide);have hll:lay m t M0=layC m t.kidsT M0 ⟨[],[],default⟩:=(by obtain ⟨ts,hts⟩:=w_choice hkd3 hok;rw [hts];simp [lay,T.kidsT])
  refine hw_seq fun Nh14 h14=>srg fun N h15=>sa<|snl h15<|hw_block ?_
  refine hw_loopc (α:=Nat×Nat×List Bag×(Nat→Bag)×Pc×Nat×Nat) (fun x c=>⟨233,[(0,.v (.pt 9101 g1 0 0)),(1,.v (ptsV e)),(3,.v (mnsV l)),(8,.v (.pt 9208 k0 0 0)),(9,.v (.pt 9209 (k0+1) 0 0)),(10,.v (.pt 9210 (k0+3) 0 0)),(12,.v (intV (x.1:Int)))],[(9101,ndO g1 (.os 9102 x.2.2.2.2.2.1 0 x.2.1) (.os 9103 x.2.2.2.2.2.2 0 x.2.1) p0),(9102,lrO x.2.2.2.2.2.1 x.2.1 (onF x.2.2.1)),(9103,lrO x.2.2.2.2.2.2 x.2.1 x.2.2.2.1),(9208,ndO k0 nilS nilS default),(9209,⟨k0+1,1,5,27,0,fun _=>ptF p⟩),(9210,ndO (k0+3) nilS nilS x.2.2.2.2.1)],c⟩) (fun x=>x.1≤t.kidsT.length∧x.2.1=M0+T.wL (t.kidsT.take x.1)∧x.2.2.1=on++(layC m (t.kidsT.take x.1) M0 ⟨[],[],default⟩).on∧x.2.2.2.1=links β (layC m (t.kidsT.take x.1) M0 ⟨[],[],default⟩).lk∧x.2.2.2.2.1=(layC m (t.kidsT.take x.1) M0 ⟨[],[],default⟩).pc) (fun x=>t.kidsT.length - x.1) ((0,M0,on,β,default,g2,g3)) (by exact ⟨Nat.zero_le _,by simp [T.wL],by simp [layC],by simp [layC,links],by simp [layC]⟩) (hsub_of rfl (Nat.le_refl _) tsa (hsr rfl (hsr rfl (hsr rfl (HpSub.cons rfl (osub_nd0 rfl rfl rfl rfl rfl rfl rfl) (hsr rfl (HpSub.cons rfl (osub_nd0 rfl rfl rfl rfl rfl rfl rfl) HpSub.nil))))))) (fun x c hx NhL16 hL16=>?_)
  revert hx hL16;obtain ⟨ii,MM,on1,be1,ou1,y2,y3⟩:=x;intro hx hL16;dsimp only at hx hL16 ⊢
  obtain ⟨hi,hMM,hon1,hbe1,hou1⟩:=hx
  have hA:=layC_pre hmo t.kidsT ii M0 om
  refine hw_seq fun Nh17 h17=>srg fun N h18=>sm ?_
  refine sf fd_27_4 ?_
  refine sl ty_25 ?_
  refine s0 (hnl el_25) ?_
  refine s0 hli ?_
  refine snl h18 ?_
  refine wc (fun hc2=>?_) (fun hc2=>?_)
  ·have hr2:=hc2;(try simp only [hcs,Int.reduceToNat] at hc2)
   have him:ii < t.kidsT.length:=(by have h:=hr2;simp [hkid,hrl] at h;omega);have hka:=kids_at' hat him;have hkt:=at_top hka;have hks:=(t.kidsT.getD ii default).size_pos;have hroot:=roots_get t.kidsT b ii him;have hwt:=wL_take t.kidsT ii him;have hwl:=wL_le t.kidsT (ii+1);have hxw:MM+(t.kidsT.getD ii default).w≤256:=om;have hlen1:on1.length=MM:=(by rw [hon1,List.length_append,hA.len,hon,hMM]);have hbok:∀ q,(be1 q).ok:=(by rw [hbe1];exact links_ok hA.lk hβ);have hbz:∀ q,MM≤q→q < 256→be1 q=Bag.zero:=(by rw [hbe1,hMM];exact links_zero hA.lk (fun q hq hq2=>hz q om hq2));have hsn:=layC_snoc m (t.kidsT.take ii) M0 ⟨[],[],default⟩ (t.kidsT.getD ii default);rw [←take_snoc him] at hsn;have hih:=ih ii him;unfold LayD at hih;rw [←hm] at hih
   refine hw_skip<|h17 _<|hw_seq fun Nh19 h19=>hw_block<|srg fun N h20=>sm<|sm ?_
   refine sf fd_27_4 ?_
   refine sl ty_25 ?_
   refine sm ?_
   refine s0 (hix el_25) ?_
   refine s0 (HOp.val (v':=intV ((b+T.sizeL (t.kidsT.take ii)+(t.kidsT.getD ii default).size - 1:Nat):Int)) (hop_load_fp ty_3 rfl (nb rfl) (fun h=>(by rfl))) (by exact kids_at (i:=ii) (by omega) (by rw [hkid,hroot];unfold T.root;omega))) ?_
   refine sm ?_
   refine hf_callR 85 (xs:=[_,_,_,_]) (pre:=[(9101,_),(9102,_),(9103,_)]) (hih _ g1 y2 y3 MM on1 be1 p0 hlen1 hxw hbok hbz) ⟨rfl,⟨rfl,⟨rfl,⟨rfl,trivial⟩⟩⟩⟩ (preC rfl (preC rfl (preC rfl pre0))) rfl rfl (fun x1 c1 hzz=>?_)
   obtain ⟨z2,z3⟩:=x1
   (try dsimp only)
   refine hm_1 13 (hop_alloc (id:=9213) (sz:=5) zc_55 rfl rfl (nb rfl) (nb rfl)) rfl rfl pre0 rfl rfl (c':=c1+1) rfl ?_
   refine sw (c1+2) ty_55 ?_
   refine snl h20<|srg fun N h21=>?_
   refine sf fd_55_2 ?_
   refine sl ty_25 ?_
   refine sf fd_55_2 ?_
   refine sl ty_25 ?_
   refine s0 (hop_call0 (xs:=[_,_]) (refOr_h ou1.first (lay m (t.kidsT.getD ii default) MM).pc.first) ⟨rfl,⟨rfl,trivial⟩⟩ ⟨fe,⟨fe,trivial⟩⟩) ?_
   refine sf fd_55_2 ?_
   refine sx (c1+3) ty_25 ?_
   refine snl h21<|srg fun N h22=>?_
   refine sf fd_55_3 ?_
   refine sl ty_25 ?_
   refine sf fd_55_3 ?_
   refine sl ty_25 ?_
   refine s0 (hop_call0 (xs:=[_,_]) (refOr_h ou1.ends (lay m (t.kidsT.getD ii default) MM).pc.ends) ⟨rfl,⟨rfl,trivial⟩⟩ ⟨fe,⟨fe,trivial⟩⟩) ?_
   refine sf fd_55_3 ?_
   refine sx (c1+4) ty_25 ?_
   refine snl h22<|hw_region ?_
   refine sf fd_55_4 ?_
   refine sl ty_4 ?_
   refine sm ?_
   refine stg 100 (fun hb=>hop_fa fd_55_4 rfl) rfl rfl rfl rfl rfl ?_
   refine hq_g 102 2 100 false _ (fun hb=>hol_load ty_4 rfl (nb rfl) (nb rfl) rq) rfl rfl rfl rfl (pre1 rfl) rfl rfl rfl ?_
   refine hq_p 103 (hstep_or _ _ rfl rfl rfl) rfl rfl rfl ?_
   refine sf fd_55_4 ?_
   refine sx (c1+5) ty_4 ?_
   refine nu ?_
   refine hq_block<|h19 _<|hw_region<|sm ?_
   refine s0 hai ?_
   refine sa<|hseq_nil ?_
   exact hL16 ((ii+1,MM+(t.kidsT.getD ii default).w,on1++(lay m (t.kidsT.getD ii default) MM).on,links be1 (lay m (t.kidsT.getD ii default) MM).lk,⟨bun ou1.first (lay m (t.kidsT.getD ii default) MM).pc.first,bun ou1.ends (lay m (t.kidsT.getD ii default) MM).pc.ends,ou1.empty||(lay m (t.kidsT.getD ii default) MM).pc.empty⟩,z2,z3)) _ _ (by (try dsimp only);exact ⟨by omega,by rw [hMM,hwt,Nat.add_assoc],by rw [hsn,←hMM,hon1];simp only [stC,List.append_assoc],by rw [hsn,←hMM,hbe1];simp only [stC];rw [links_app],by rw [hsn,←hMM,hou1];rfl⟩) (by (try dsimp only);omega) (hsub_of rfl (Nat.le_refl _) tsa (hsr rfl (hsr rfl (hsr rfl (hsr rfl (hsr rfl (HpSub.cons rfl (osub_ndv (by exact jn5 rfl rfl rfl rfl rfl)) HpSub.nil)))))))
  have hr2:=hc2;(try simp only [hcs,Int.reduceToNat] at hc2)
  have hit:ii=t.kidsT.length:=(by have h:=hr2;simp [hkid,hrl] at h;omega);rw [hit,List.take_length] at hA hMM hon1 hbe1 hou1
  refine hw_exit ?_
  refine hq_then_exit<|hq_then_exit<|hq_block_here<|h14 _<|srg fun N h23=>?_
  refine sl ty_55 ?_
  refine sw (c+1) ty_55 ?_
  refine snl h23<|hw_ret<|hq_then_ret ?_
  refine hf_retR1 ok hX RetS.one rfl (rvl_cell rfl rfl ty_55 rqc rfl rfl) [] rfl pre0 ((y2,y3)) (trivial) (by rfl) (by rfl) ((by rw [hll,←hou1];exact kz_nd (by exact jn5 rfl rfl rfl rfl rfl))) ?_
  exact ⟨⟨_,rfl,(by rw [hwm,←hMM];exact okz_netD rfl rfl rfl rfl)⟩,⟨⟨_,rfl,(by rw [hwm,←hMM,hll,←hon1];exact okz_lrow (fun _ _=>rfl))⟩,⟨⟨_,rfl,(by rw [hwm,←hMM,hll,←hbe1];exact okz_lrow (fun _ _=>rfl))⟩,trivial⟩⟩⟩
 have hr1:=hc1;(try simp only [hcs,Int.reduceToNat] at hc1)
 refine hw_skip<|h12 _<|srg fun N h24=>?_
 refine sf fd_55_4 ?_
 refine sx (c+6) ty_4 ?_
 refine snl h24<|hw_seq fun Nh25 h25=>srg fun N h26=>?_
 refine sf fd_27_0 ?_
 refine sl ty_3 ?_
 refine s0 hqi ?_
 refine snl h26 ?_
 refine wc (fun hc3=>?_) (fun hc3=>?_)
 ·have hr3:=hc3;(try simp only [hcs,Int.reduceToNat] at hc3)
  have hkd2:t.kind=2:=(by rw [←hpk];exact hc3);have hwm:=w_many (t:=t) (by rw [←hpk];exact hc0) (by rw [hkd2];decide);have hll:lay m t M0=layR m t.kidsT M0 ⟨[],[],Pc.nil⟩:=(by obtain ⟨k,ts,hts,hk3⟩:=w_row (by rw [←hpk];exact hc0) (by rw [hkd2];decide) (by rw [←hpk];exact hc1) hok;rw [hts];simp [lay,hk3,T.kidsT])
  refine hw_seq fun Nh27 h27=>srg fun N h28=>sa<|snl h28<|hw_block ?_
  refine hw_loopc (α:=Nat×Nat×List Bag×(Nat→Bag)×Pc×Nat×Nat) (fun x c=>⟨233,[(0,.v (.pt 9101 g1 0 0)),(1,.v (ptsV e)),(3,.v (mnsV l)),(8,.v (.pt 9208 k0 0 0)),(9,.v (.pt 9209 (k0+1) 0 0)),(10,.v (.pt 9210 (k0+3) 0 0)),(14,.v (intV (x.1:Int)))],[(9101,ndO g1 (.os 9102 x.2.2.2.2.2.1 0 x.2.1) (.os 9103 x.2.2.2.2.2.2 0 x.2.1) p0),(9102,lrO x.2.2.2.2.2.1 x.2.1 (onF x.2.2.1)),(9103,lrO x.2.2.2.2.2.2 x.2.1 x.2.2.2.1),(9208,ndO k0 nilS nilS default),(9209,⟨k0+1,1,5,27,0,fun _=>ptF p⟩),(9210,ndO (k0+3) nilS nilS x.2.2.2.2.1)],c⟩) (fun x=>x.1≤t.kidsT.length∧x.2.1=M0+T.wL (t.kidsT.take x.1)∧x.2.2.1=on++(layR m (t.kidsT.take x.1) M0 ⟨[],[],Pc.nil⟩).on∧x.2.2.2.1=links β (layR m (t.kidsT.take x.1) M0 ⟨[],[],Pc.nil⟩).lk∧x.2.2.2.2.1=(layR m (t.kidsT.take x.1) M0 ⟨[],[],Pc.nil⟩).pc) (fun x=>t.kidsT.length - x.1) ((0,M0,on,β,Pc.nil,g2,g3)) (by exact ⟨Nat.zero_le _,by simp [T.wL],by simp [layR],by simp [layR,links],by simp [layR]⟩) (hsub_of rfl (Nat.le_refl _) tsa (hsr rfl (hsr rfl (hsr rfl (HpSub.cons rfl (osub_nd0 rfl rfl rfl rfl rfl rfl rfl) (hsr rfl (HpSub.cons rfl (osub_nd0 rfl rfl rfl rfl rfl rfl rfl) HpSub.nil))))))) (fun x c hx NhL29 hL29=>?_)
  revert hx hL29;obtain ⟨ii,MM,on1,be1,ou1,y2,y3⟩:=x;intro hx hL29;dsimp only at hx hL29 ⊢
  obtain ⟨hi,hMM,hon1,hbe1,hou1⟩:=hx
  have hA:=layR_pre hmo t.kidsT ii M0 om
  refine hw_seq fun Nh30 h30=>srg fun N h31=>sm ?_
  refine sf fd_27_4 ?_
  refine sl ty_25 ?_
  refine s0 (hnl el_25) ?_
  refine s0 hli ?_
  refine snl h31 ?_
  refine wc (fun hc4=>?_) (fun hc4=>?_)
  ·have hr4:=hc4;(try simp only [hcs,Int.reduceToNat] at hc4)
   have him:ii < t.kidsT.length:=(by have h:=hr4;simp [hkid,hrl] at h;omega);have hka:=kids_at' hat him;have hkt:=at_top hka;have hks:=(t.kidsT.getD ii default).size_pos;have hroot:=roots_get t.kidsT b ii him;have hwt:=wL_take t.kidsT ii him;have hwl:=wL_le t.kidsT (ii+1);have hxw:MM+(t.kidsT.getD ii default).w≤256:=om;have hly:=lay_ok hmo (t.kidsT.getD ii default) MM hxw;have hlen1:on1.length=MM:=(by rw [hon1,List.length_append,hA.len,hon,hMM]);have hbok:∀ q,(be1 q).ok:=(by rw [hbe1];exact links_ok hA.lk hβ);have hbz:∀ q,MM≤q→q < 256→be1 q=Bag.zero:=(by rw [hbe1,hMM];exact links_zero hA.lk (fun q hq hq2=>hz q om hq2));have hou2:ou1.ok:=(by rw [hou1];exact hA.pc);have hino:InB M0 (MM+(t.kidsT.getD ii default).w) ou1.ends:=(by rw [hou1,hMM];exact hA.inB.2.mono (Nat.le_refl _) om);have hsn:=layR_snoc m (t.kidsT.take ii) M0 ⟨[],[],Pc.nil⟩ (t.kidsT.getD ii default);rw [←take_snoc him] at hsn;have hih:=ih ii him;unfold LayD at hih;rw [←hm] at hih
   refine hw_skip<|h30 _<|hw_seq fun Nh32 h32=>hw_block<|srg fun N h33=>sm<|sm ?_
   refine sf fd_27_4 ?_
   refine sl ty_25 ?_
   refine sm ?_
   refine s0 (hix el_25) ?_
   refine s0 (HOp.val (v':=intV ((b+T.sizeL (t.kidsT.take ii)+(t.kidsT.getD ii default).size - 1:Nat):Int)) (hop_load_fp ty_3 rfl (nb rfl) (fun h=>(by rfl))) (by exact kids_at (i:=ii) (by omega) (by rw [hkid,hroot];unfold T.root;omega))) ?_
   refine sm ?_
   refine hf_callR 125 (xs:=[_,_,_,_]) (pre:=[(9101,_),(9102,_),(9103,_)]) (hih _ g1 y2 y3 MM on1 be1 p0 hlen1 hxw hbok hbz) ⟨rfl,⟨rfl,⟨rfl,⟨rfl,trivial⟩⟩⟩⟩ (preC rfl (preC rfl (preC rfl pre0))) rfl rfl (fun x2 c2 hzz=>?_)
   obtain ⟨z2,z3⟩:=x2
   (try dsimp only)
   refine hm_1 15 (hop_alloc (id:=9215) (sz:=5) zc_55 rfl rfl (nb rfl) (nb rfl)) rfl rfl pre0 rfl rfl (c':=c2+1) rfl ?_
   refine sw (c2+2) ty_55 ?_
   refine snl h33<|hw_region<|sm ?_
   refine st1 (HOp.val (v':=ndV (lay m (t.kidsT.getD ii default) MM).pc) (hol_load ty_55 rfl (nb rfl) (nb rfl) (fun h=>(by cases h))) (rfl)) rfl rfl rfl ?_
   refine hm_ 128 (hop_funD (xs:=[_,_,_]) (pre:=[(9101,_),(9102,_),(9103,_),(9210,_)]) (seq_h9210 ou1 (lay m (t.kidsT.getD ii default) MM).pc hou2 hly.pc (MM+(t.kidsT.getD ii default).w) g1 z2 z3 (k0+3) (onF (on1++(lay m (t.kidsT.getD ii default) MM).on)) _ p0 (inB_lt hino) hxw) ((clkS rfl rfl rfl rfl)) ⟨rfl,⟨rfl,⟨rfl,trivial⟩⟩⟩) rfl rfl (preC rfl (preC rfl (preC rfl (preC rfl pre0)))) rfl rfl (c':=c2+3) rfl ?_
   refine hseq_nil<|hq_block<|h32 _<|hw_region<|sm ?_
   refine s0 hai ?_
   refine sa<|hseq_nil ?_
   exact hL29 ((ii+1,MM+(t.kidsT.getD ii default).w,on1++(lay m (t.kidsT.getD ii default) MM).on,linkF (links be1 (lay m (t.kidsT.getD ii default) MM).lk) (ou1.ends,(lay m (t.kidsT.getD ii default) MM).pc.first),ou1.join (lay m (t.kidsT.getD ii default) MM).pc,z2,z3)) _ _ (by (try dsimp only);exact ⟨by omega,by rw [hMM,hwt,Nat.add_assoc],by rw [hsn,←hMM,hon1];simp only [stR,List.append_assoc],by rw [hsn,←hMM,hbe1,hou1];simp only [stR];rw [links_app,links_app];rfl,by rw [hsn,←hMM,hou1];rfl⟩) (by (try dsimp only);omega) (hsub_of rfl (Nat.le_refl _) tsa hsa)
  have hr4:=hc4;(try simp only [hcs,Int.reduceToNat] at hc4)
  have hit:ii=t.kidsT.length:=(by have h:=hr4;simp [hkid,hrl] at h;omega);rw [hit,List.take_length] at hA hMM hon1 hbe1 hou1
  refine hw_exit ?_
  refine hq_then_exit<|hq_then_exit<|hq_block_here<|h27 _<|srg fun N h34=>?_
  refine sl ty_55 ?_
  refine sw (c+1) ty_55 ?_
  refine snl h34<|hw_ret<|hq_then_ret ?_
  refine hf_retR1 ok hX RetS.one rfl (rvl_cell rfl rfl ty_55 rqc rfl rfl) [] rfl pre0 ((y2,y3)) (trivial) (by rfl) (by rfl) ((by rw [hll,←hou1];exact kz_nd (by exact jn5 rfl rfl rfl rfl rfl))) ?_
  exact ⟨⟨_,rfl,(by rw [hwm,←hMM];exact okz_netD rfl rfl rfl rfl)⟩,⟨⟨_,rfl,(by rw [hwm,←hMM,hll,←hon1];exact okz_lrow (fun _ _=>rfl))⟩,⟨⟨_,rfl,(by rw [hwm,←hMM,hll,←hbe1];exact okz_lrow (fun _ _=>rfl))⟩,trivial⟩⟩⟩
 have hr3:=hc3;(try simp only [hcs,Int.reduceToNat] at hc3)
 exfalso;exact hk4 (kind2 hok (by rw [←hpk];exact hc0) (by rw [←hpk];exact hc1) (by rw [←hpk];exact hc3))
theorem nds_at {l:List Pc} {i:Nat} {x:Pc} {f:Nat→HV} (h:l.getD i default=x) (hf:∀ j,f j=ndsF l i j):HV.agg 5 f=ndV x:=by
 subst h
 show HV.agg 5 f=HV.agg 5 _
 congr 1;funext j;exact hf j
theorem part_times (l:List Mn) (hB:MnB l) (e:List Pt) (he:e.length≤100000) (b:Nat) (t:T) (hk4:t.kind=4) (hok:t.ok=true) (hat:AtP e b (T.flat b t)) (hkl:t.kidsT.length≤100000)
  (ih:∀ i,i < t.kidsT.length→LayD l e (b+T.sizeL (t.kidsT.take i)) (t.kidsT.getD i default)):LayD l e b t:=by
 intro c g1 g2 g3 M0 on β p0 hon hw hβ hz
 have htop:=at_top hat
 have hps:=t.size_pos
 have hkid:=top_kids b t
 have hrl:=rootsL_len t.kidsT b
 generalize htp:t.top b=p at htop hkid
 have hpk:p.kind=4:=by rw [←htp,top_kind b t];exact hk4
 obtain ⟨m,hm⟩:∃ m,m=meansV l:=⟨_,rfl⟩
 have hmo:∀ s,(m s).ok:=by rw [hm];exact means_ok l
 rw [←hm]
 obtain ⟨lo,hi,u,htu⟩:=w_times hk4 hok
 have hct:=w_count b hk4 hok
 rw [htp] at hct
 have hmi:=many_int p.low p.high hct.2.1
 have hpl:p.low=lo∧p.high=hi:=by rw [←htp,htu];exact ⟨rfl,rfl⟩
 have hk1:t.kidsT=[u]:=by rw [htu];rfl
 have hkl0:p.kids.length=1:=by rw [hkid,hrl,hk1];rfl
 have h0k:0 < t.kidsT.length:=by rw [hk1];exact Nat.zero_lt_one
 have hiu:LayD l e b u:=by have h:=ih 0 h0k;rw [hk1] at h;simpa [T.sizeL] using h
 have hka:=kids_at' hat h0k
 have hroot:=roots_get t.kidsT b 0 h0k
 have hu0:t.kidsT.getD 0 default=u:=by rw [hk1];rfl
 have hs0:T.sizeL (t.kidsT.take 0)=0:=by simp [T.sizeL]
 rw [hu0,hs0,Nat.add_zero] at hroot
 have hus:=u.size_pos
 unfold LayD at hiu
 rw [←hm] at hiu
 have hll:lay m t M0=layT p.low p.high (fun k=>lay m u (M0+k * u.w)):=by rw [htu,hpl.1,hpl.2];simp [lay]
 have htw:t.w=manyOf p.low p.high * u.w:=by rw [hct.1,hk1,Nat.mul_comm];simp [T.wL]
 have hdoc:=layT_doc hct.2.1 (hi:=p.high) (fun k=>lay m u (M0+k * u.w)) β
 obtain ⟨many,hmany⟩:∃ k,k=manyOf p.low p.high:=⟨_,rfl⟩
 obtain ⟨g,hg'⟩:∃ g,g=fun k=>lay m u (M0+k * u.w):=⟨_,rfl⟩
 have hgk:∀ k,lay m u (M0+k * u.w)=g k:=fun k=>by rw [hg']
 rw [←hmany] at hmi htw hdoc
 rw [←hg'] at hll hdoc
 have hm20:many≤20:=by rw [hmany];exact hct.2.2.2.2
 have hg:∀ k,k < many→(g k).Ok (M0+k * u.w) u.w:=fun k hk=>by rw [←hgk];exact lay_ok hmo u _ (by have:=kw_le (w:=u.w) hk;omega)
 rw [htw] at hw ⊢
 rw [hll]
 obtain ⟨R,hR⟩:∃ R,R=restP p.low.toNat g many:=⟨_,rfl⟩
 rw [←hR] at hdoc
 have hRl:R.length=many - p.low.toNat:=by rw [hR];exact restP_len _ _ _
 have hRo:∀ x∈R,x.ok∧x.inB M0 (M0+many * u.w):=by rw [hR];exact restP_ok hg many (Nat.le_refl _)
 let k0:=c
 refine hfun_of Tryz.func56 rfl kr _ _ _ _ rfl 233 rfl rfl (fun X ok hX=>?_)
 refine srg fun N h1=>?_
 refine hm_1 8 (hop_alloc (id:=9208) (sz:=5) zc_55 rfl rfl (nb rfl) (nb rfl)) rfl rfl pre0 rfl rfl (c':=c+1) rfl ?_
 refine snl h1<|srg fun N h2=>sm<|sm ?_
 refine s0 (hix el_22) ?_
 refine s0 (HOp.val (v':=ptH p) (hop_load_fp ty_27 rfl (nb rfl) (fun h=>(by cases h))) (pt_at (by omega) htop.1)) ?_
 refine hm_1 9 (hop_alloc (id:=9209) (sz:=5) zc_27 rfl rfl (nb rfl) (nb rfl)) rfl rfl pre0 rfl rfl (c':=c+2) rfl ?_
 refine sw (c+3) ty_27 ?_
 refine snl h2<|srg fun N h3=>?_
 refine s0 (hop_build (hs:=[]) st_55 rfl rfl trivial) ?_
 refine hm_1 10 (hop_alloc (id:=9210) (sz:=5) zc_55 rfl rfl (nb rfl) (nb rfl)) rfl rfl pre0 rfl rfl (c':=c+4) rfl ?_
 refine sw (c+5) ty_55 ?_
 refine snl h3<|hw_seq fun Nh4 h4=>srg fun N h5=>?_
 refine sf fd_27_0 ?_
 refine sl ty_3 ?_
 refine s0 hqi ?_
 refine snl h5 ?_
 refine wc (fun hc0=>?_) (fun hc0=>?_)
 ·have hr0:=hc0;(try simp only [hcs,Int.reduceToNat] at hc0)
  exfalso;omega
 have hr0:=hc0;(try simp only [hcs,Int.reduceToNat] at hc0)
 refine hw_skip<|h4 _<|hw_seq fun Nh6 h6=>srg fun N h7=>?_
 refine sf fd_27_0 ?_
 refine sl ty_3 ?_
 refine s0 hqi ?_
 refine snl h7 ?_
 refine wc (fun hc1=>?_) (fun hc1=>?_)
 ·have hr1:=hc1;(try simp only [hcs,Int.reduceToNat] at hc1)
  exfalso;omega
 have hr1:=hc1;(try simp only [hcs,Int.reduceToNat] at hc1)
 refine hw_skip<|h6 _<|srg fun N h8=>?_
 refine sf fd_55_4 ?_
 refine sx (c+6) ty_4 ?_
 refine snl h8<|hw_seq fun Nh9 h9=>srg fun N h10=>?_
 refine sf fd_27_0 ?_
 refine sl ty_3 ?_
 refine s0 hqi ?_
 refine snl h10 ?_
 refine wc (fun hc3=>?_) (fun hc3=>?_)
 ·have hr3:=hc3;(try simp only [hcs,Int.reduceToNat] at hc3)
  exfalso;omega
 have hr3:=hc3;(try simp only [hcs,Int.reduceToNat] at hc3)
 refine hw_skip<|h9 _<|srg fun N h11=>?_
 refine sf fd_27_2 ?_
 refine sl ty_3 ?_
 refine sa<|snl h11 ?_
 refine hw_joinc (α:=Nat) (fun x c=>⟨233,[(0,.v (.pt 9101 g1 0 0)),(1,.v (ptsV e)),(3,.v (mnsV l)),(8,.v (.pt 9208 k0 0 0)),(9,.v (.pt 9209 (k0+1) 0 0)),(10,.v (.pt 9210 (k0+3) 0 0)),(16,.v (intV (many:Int)))],[(9101,ndO g1 (.os 9102 g2 0 M0) (.os 9103 g3 0 M0) p0),(9102,lrO g2 M0 (onF on)),(9103,lrO g3 M0 β),(9208,ndO k0 nilS nilS default),(9209,⟨k0+1,1,5,27,0,fun _=>ptF p⟩),(9210,ndO (k0+3) nilS nilS Pc.nil)],c⟩) (fun x=>x≤0) (fun NhJ12 hJ12=>?_) (fun q c hx=>?_)
 ·skip
  refine srg fun N h13=>sm ?_
  refine s0 hli ?_
  refine snl h13 ?_
  refine wc (fun hc5=>?_) (fun hc5=>?_)
  ·have hr5:=hc5;(try simp only [hcs,Int.reduceToNat] at hc5)
   refine hw_region ?_
   refine sf fd_27_1 ?_
   refine sl ty_3 ?_
   refine s0 (HOp.val (v':=intV (many:Int)) (hop_max rfl rfl) (by rw [←hmi,if_pos hc5])) ?_
   refine sa<|hseq_nil ?_
   exact hJ12 (0) _ _ (by (try dsimp only);first | done | exact Nat.le_refl _) (hsub_of rfl (Nat.le_refl _) tsa (hsr rfl (hsr rfl (hsr rfl (HpSub.cons rfl (osub_nd0 rfl rfl rfl rfl rfl rfl rfl) (hsr rfl (HpSub.cons rfl (osub_nd0 rfl rfl rfl rfl rfl rfl rfl) HpSub.nil)))))))
  have hr5:=hc5;(try simp only [hcs,Int.reduceToNat] at hc5)
  refine hw_skip ?_
  exact hJ12 (0) _ _ (by (try dsimp only);first | done | exact Nat.le_refl _) (hsub_of rfl (Nat.le_refl _) (tsr rfl (tsr rfl (tsr rfl (tsr rfl (tsr rfl (tsr rfl (TmSub.cons rfl (by rw [←hmi,if_neg hc5];exact .refl _) TmSub.nil))))))) (hsr rfl (hsr rfl (hsr rfl (HpSub.cons rfl (osub_nd0 rfl rfl rfl rfl rfl rfl rfl) (hsr rfl (HpSub.cons rfl (osub_nd0 rfl rfl rfl rfl rfl rfl rfl) HpSub.nil)))))))
 ·skip
  (try dsimp only at hx ⊢)
  refine srg fun N h14=>sa<|snl h14<|hw_seq fun Nh15 h15=>srg fun N h16=>sa<|snl h16<|hw_block ?_
  refine hw_own 17 9117 5 55 ((ndsF [])) rfl (by decide) rfl (c':=c+1) rfl ?_
  refine hw_loopc (α:=Nat×Nat×List Bag×(Nat→Bag)×Nat×Nat×Nat) (fun x c=>⟨233,[(0,.v (.pt 9101 g1 0 0)),(1,.v (ptsV e)),(3,.v (mnsV l)),(8,.v (.pt 9208 k0 0 0)),(9,.v (.pt 9209 (k0+1) 0 0)),(10,.v (.pt 9210 (k0+3) 0 0)),(16,.v (intV (many:Int))),(17,.v (.os 9117 x.2.2.2.2.2.2 0 (pcsP g x.1).length)),(18,.v (intV (x.1:Int)))],[(9101,ndO g1 (.os 9102 x.2.2.2.2.1 0 x.2.1) (.os 9103 x.2.2.2.2.2.1 0 x.2.1) p0),(9102,lrO x.2.2.2.2.1 x.2.1 (onF x.2.2.1)),(9103,lrO x.2.2.2.2.2.1 x.2.1 x.2.2.2.1),(9208,ndO k0 nilS nilS default),(9209,⟨k0+1,1,5,27,0,fun _=>ptF p⟩),(9210,ndO (k0+3) nilS nilS Pc.nil),(9117,⟨x.2.2.2.2.2.2,(pcsP g x.1).length,5,55,0,ndsF (pcsP g x.1)⟩)],c⟩) (fun x=>x.1≤many∧x.2.1=M0+x.1 * u.w∧x.2.2.1=on++onP g x.1∧x.2.2.2.1=links β (lkP p.high g many x.1)) (fun x=>many - x.1) ((0,M0,on,β,g2,g3,c)) (by exact ⟨Nat.zero_le _,by simp,by simp [onP],by simp [lkP,links]⟩) (hsub_of rfl (Nat.le_refl _) tsa hsa) (fun x c hx NhL17 hL17=>?_)
  revert hx hL17;obtain ⟨kk,MM,on1,be1,y2,y3,gr⟩:=x;intro hx hL17;dsimp only at hx hL17 ⊢
  obtain ⟨hk,hMM,hon1,hbe1⟩:=hx
  have hpl2:=pcsP_len g kk
  refine hw_seq fun Nh18 h18=>srg fun N h19=>sm<|sm ?_
  refine s0 hli ?_
  refine snl h19 ?_
  refine wc (fun hc6=>?_) (fun hc6=>?_)
  ·have hr6:=hc6;(try simp only [hcs,Int.reduceToNat] at hc6)
   have hkm:kk < many:=om;have hgo:=hg kk hkm;have hkw:=kw_le (w:=u.w) hkm;have hMw:MM+u.w≤256:=om;have hL:=lkP_ok (hi:=p.high) hg kk hk;have hlen1:on1.length=MM:=(by rw [hon1,List.length_append,hon,onP_len hg kk hk,hMM]);have hbok:∀ q,(be1 q).ok:=(by rw [hbe1];exact links_ok hL hβ);have hbz:∀ q,MM≤q→q < 256→be1 q=Bag.zero:=(by rw [hbe1,hMM];exact links_zero hL (fun q hq hq2=>hz q om hq2));have hMg:lay m u MM=g kk:=(by rw [hMM];exact hgk kk);have hih:=fun c=>hiu c g1 y2 y3 MM on1 be1 p0 hlen1 hMw hbok hbz;simp only [hMg] at hih;have hine:InB (M0+kk * u.w) (MM+u.w) (g kk).pc.ends:=(by rw [hMM];exact hgo.inB.2);have hle:=list_le (g kk).pc.ends
   refine hw_skip<|h18 _<|hw_seq fun Nh20 h20=>hw_block<|srg fun N h21=>sm<|sm ?_
   refine sf fd_27_4 ?_
   refine sl ty_25 ?_
   refine s0 (hix el_25) ?_
   refine s0 (HOp.val (v':=intV ((b+u.size - 1:Nat):Int)) (hop_load_fp ty_3 rfl (nb rfl) (fun h=>(by rfl))) (by exact kids_at (i:=0) (by omega) (by rw [hkid,hroot];unfold T.root;omega))) ?_
   refine sm ?_
   refine hf_callR 149 (xs:=[_,_,_,_]) (pre:=[(9101,_),(9102,_),(9103,_)]) (hih _) ⟨rfl,⟨rfl,⟨rfl,⟨rfl,trivial⟩⟩⟩⟩ (preC rfl (preC rfl (preC rfl pre0))) rfl rfl (fun x1 c1 hzz=>?_)
   obtain ⟨z2,z3⟩:=x1
   (try dsimp only)
   refine hm_1 19 (hop_alloc (id:=9219) (sz:=5) zc_55 rfl rfl (nb rfl) (nb rfl)) rfl rfl pre0 rfl rfl (c':=c1+1) rfl ?_
   refine sw (c1+2) ty_55 ?_
   refine snl h21 ?_
   refine hw_joinc (α:=Nat→Bag) (fun x c=>⟨233,[(0,.v (.pt 9101 g1 0 0)),(1,.v (ptsV e)),(3,.v (mnsV l)),(8,.v (.pt 9208 k0 0 0)),(9,.v (.pt 9209 (k0+1) 0 0)),(10,.v (.pt 9210 (k0+3) 0 0)),(16,.v (intV (many:Int))),(17,.v (.os 9117 gr 0 (pcsP g kk).length)),(18,.v (intV (kk:Int))),(19,.v (.pt 9219 c1 0 0))],[(9101,ndO g1 (.os 9102 z2 0 (MM+u.w)) (.os 9103 z3 0 (MM+u.w)) p0),(9102,lrO z2 (MM+u.w) (onF (on1++(g kk).on))),(9103,lrO z3 (MM+u.w) x),(9208,ndO k0 nilS nilS default),(9209,⟨k0+1,1,5,27,0,fun _=>ptF p⟩),(9210,ndO (k0+3) nilS nilS Pc.nil),(9117,⟨gr,(pcsP g kk).length,5,55,0,ndsF (pcsP g kk)⟩),(9219,ndO c1 nilS nilS (g kk).pc)],c⟩) (fun x=>x=links β (lkP p.high g many (kk+1))) (fun NhJ22 hJ22=>?_) (fun be2 c hx=>?_)
   ·skip
    refine srg fun N h23=>?_
    refine sf fd_27_2 ?_
    refine sl ty_3 ?_
    refine s0 hli ?_
    refine sm ?_
    refine gm 153 ?_
    refine gm 153 ?_
    refine stg 153 (fun hb=>hop_subi rfl rfl rfl (by simp at hb;exact omx) (by simp at hb;exact omx)) rfl rfl rfl rfl rfl ?_
    refine stg 153 (fun hb=>hop_eql rfl rfl) rfl rfl rfl rfl rfl ?_
    refine hq_p 158 (hstep_and _ _ rfl rfl rfl) rfl rfl rfl ?_
    refine nu ?_
    refine h23 _ ?_
    refine wc (fun hc7=>?_) (fun hc7=>?_)
    ·have hr7:=hc7;(try simp only [hcs,Int.reduceToNat] at hc7)
     refine srg fun N h24=>sa<|snl h24<|hw_block ?_
     refine hw_loopc (α:=Nat) (fun x c=>⟨233,[(0,.v (.pt 9101 g1 0 0)),(1,.v (ptsV e)),(3,.v (mnsV l)),(8,.v (.pt 9208 k0 0 0)),(9,.v (.pt 9209 (k0+1) 0 0)),(10,.v (.pt 9210 (k0+3) 0 0)),(16,.v (intV (many:Int))),(17,.v (.os 9117 gr 0 (pcsP g kk).length)),(18,.v (intV (kk:Int))),(19,.v (.pt 9219 c1 0 0)),(20,.v (intV (x:Int)))],[(9101,ndO g1 (.os 9102 z2 0 (MM+u.w)) (.os 9103 z3 0 (MM+u.w)) p0),(9102,lrO z2 (MM+u.w) (onF (on1++(g kk).on))),(9103,lrO z3 (MM+u.w) (linkI (g kk).pc.ends (g kk).pc.first (links be1 (g kk).lk) x)),(9208,ndO k0 nilS nilS default),(9209,⟨k0+1,1,5,27,0,fun _=>ptF p⟩),(9210,ndO (k0+3) nilS nilS Pc.nil),(9117,⟨gr,(pcsP g kk).length,5,55,0,ndsF (pcsP g kk)⟩),(9219,ndO c1 nilS nilS (g kk).pc)],c⟩) (fun x=>x≤(g kk).pc.ends.list.length) (fun x=>(g kk).pc.ends.list.length - x) (0) om (hsub_of rfl (Nat.le_refl _) tsa (hsr rfl (hsr rfl (HpSub.cons rfl (osub_lrow fun p hp=>by show iListV _=_;rw [linkI_zero]) (hsr rfl (hsr rfl (hsr rfl (hsr rfl (HpSub.cons rfl (osub_ndv (by exact jn5 rfl rfl rfl rfl rfl)) HpSub.nil))))))))) (fun j c hx NhL25 hL25=>?_)
     (try dsimp only at hx hL25 ⊢)
     obtain hj:=hx
     refine hw_seq fun Nh26 h26=>srg fun N h27=>sm ?_
     refine sf fd_55_3 ?_
     refine sl ty_25 ?_
     refine s0 (hnl el_25) ?_
     refine s0 hli ?_
     refine snl h27 ?_
     refine wc (fun hc8=>?_) (fun hc8=>?_)
     ·have hr8:=hc8;(try simp only [hcs,Int.reduceToNat] at hc8)
      have hj':j < (g kk).pc.ends.list.length:=om;obtain ⟨q,hq256,hqA,hq⟩:=list_lt (g kk).pc.ends hj';have hqM:=inB_lt hine q hq256 hqA
      refine hw_skip<|h26 _<|hw_seq fun Nh28 h28=>hw_block<|hd_start ?_
      refine dm 1 ?_
      refine dk 2 ?_
      refine df 3 fd_55_1 ?_
      refine dl 4 ty_53 ?_
      refine df 5 fd_55_3 ?_
      refine dl 6 ty_25 ?_
      refine dm 7 ?_
      refine d0 8 (hix el_25) ?_
      refine d0 9 (HOp.val (v':=intV (q:Int)) (hop_load_fp ty_3 rfl (nb rfl) (fun h=>(by rfl))) (congrArg intV hq)) ?_
      refine dm 10 ?_
      refine dk 11 ?_
      refine df 12 fd_55_1 ?_
      refine dl 13 ty_53 ?_
      refine df 14 fd_55_3 ?_
      refine dl 15 ty_25 ?_
      refine dm 16 ?_
      refine d0 17 (hix el_25) ?_
      refine d0 18 (HOp.val (v':=intV (q:Int)) (hop_load_fp ty_3 rfl (nb rfl) (fun h=>(by rfl))) (congrArg intV hq)) ?_
      refine hd_q 184 (hol_ia_os el_53 rfl rfl om om) rfl rfl (pre1 rfl) rfl rfl (k':=19) rfl ?_
      refine hd_q 185 (hol_load ty_25 rfl om (nb rfl) rq) rfl rfl (pre1 rfl) rfl rfl (k':=20) rfl ?_
      refine df 21 fd_55_2 ?_
      refine dl 22 ty_25 ?_
      refine d0 23 (hop_call0 (xs:=[_,_]) (refOr_h (linkI (g kk).pc.ends (g kk).pc.first (links be1 (g kk).lk) j q) (g kk).pc.first) ⟨rfl,⟨rfl,trivial⟩⟩ ⟨(Fz.eq (by rw [Nat.zero_add];rfl)),⟨(Fz.eq rfl),trivial⟩⟩) ?_
      refine hd_q 189 (hol_ia_os el_53 rfl rfl om om) rfl rfl (pre1 rfl) rfl rfl (k':=24) rfl ?_
      refine hd_s1 (hol_store ty_25 rfl rfl rfl rfl om (nb rfl) (nb rfl)) rfl rfl (pre1 rfl) (k':=25) rfl ?_
      refine hd_nil kr kr (c':=c+25) rfl ?_
      refine hq_block<|h28 _<|hw_region<|sm ?_
      refine s0 hai ?_
      refine sa<|hseq_nil ?_
      exact hL25 (j+1) _ _ (by (try dsimp only);omega) (by (try dsimp only);omega) (hsub_of rfl (Nat.le_refl _) tsa (hsr rfl (hsr rfl (HpSub.cons rfl (osub_lrow fun p hp=>upd_lrow.trans (by rw [linkI_succ _ _ _ hj' hq,Nat.zero_add];rfl)) hsa))))
     have hr8:=hc8;(try simp only [hcs,Int.reduceToNat] at hc8)
     have hje:j=(g kk).pc.ends.list.length:=om
     refine hw_exit ?_
     refine hq_then_exit<|hq_then_exit<|hq_block_here ?_
     exact hJ22 (linkF (links be1 (g kk).lk) ((g kk).pc.ends,(g kk).pc.first)) _ _ (by (try dsimp only);rw [hbe1];simp only [lkP];rw [if_pos om,links_app,links_app];rfl) (hsub_of rfl (Nat.le_refl _) tsa (hsr rfl (hsr rfl (HpSub.cons rfl (osub_lrow fun p hp=>by show iListV _=_;rw [hje,linkI_end _ _ _ om]) hsa))))
    have hr7:=hc7;(try simp only [hcs,Int.reduceToNat] at hc7)
    refine hw_skip ?_
    exact hJ22 (links be1 (g kk).lk) _ _ (by (try dsimp only);rw [hbe1];simp only [lkP];rw [if_neg (fun h=>by simp [h.1] at hc7;omega),List.append_nil,links_app]) (hsub_of rfl (Nat.le_refl _) tsa (hsr rfl (hsr rfl (hsr rfl (hsr rfl (hsr rfl (hsr rfl (hsr rfl (HpSub.cons rfl (osub_ndv (by exact jn5 rfl rfl rfl rfl rfl)) HpSub.nil)))))))))
   ·skip
    (try dsimp only at hx ⊢)
    refine hw_region<|sm ?_
    refine st1 (HOp.val (v':=ndV (g kk).pc) (hol_load ty_55 rfl (nb rfl) (nb rfl) (fun h=>(by cases h))) (rfl)) rfl rfl rfl ?_
    refine hm_1 192 (hop_buildSlice (id:=9392) (hs:=[_]) ei_132 (nb rfl) rfl (nb rfl) ⟨rfl,rfl,rfl,rfl,trivial⟩) rfl rfl pre0 rfl rfl (c':=c+1) rfl ?_
    refine hm_1 193 (hol_append ei_132 (nb rfl) rfl om (nb rfl) (srl_os0 rfl (nb rfl)) om rfl) rfl rfl (preC rfl (pre1 rfl)) rfl rfl (c':=c+2) rfl ?_
    refine sa<|hseq_nil<|hq_block<|h20 _<|hw_region<|sm ?_
    refine s0 hai ?_
    refine sa<|hseq_nil ?_
    exact hL17 ((kk+1,MM+u.w,on1++(g kk).on,be2,z2,z3,c+1)) _ _ (by (try dsimp only);exact ⟨by omega,by rw [hMM,Nat.succ_mul,Nat.add_assoc],by rw [hon1,List.append_assoc];rfl,hx⟩) (by (try dsimp only);omega) (hsub_of rfl (Nat.le_refl _) (tsr rfl (tsr rfl (tsr rfl (tsr rfl (tsr rfl (tsr rfl (tsr rfl (TmSub.cons rfl (sb_os (by simp [pcsP])) tsa)))))))) (hsr rfl (hsr rfl (hsr rfl (hsr rfl (hsr rfl (hsr rfl (HpSub.cons rfl (by exact osub_snoc (enc:=fun x=>ndF nilS nilS x 0) (d:=default) rfl (fun i j _ _=>.refl _) (fun j hj=>.refl _)) HpSub.nil))))))))
  have hr6:=hc6;(try simp only [hcs,Int.reduceToNat] at hc6)
  have hkm:kk=many:=om;have hMm:MM=M0+many * u.w:=(by rw [hMM,hkm]);have hM256:MM≤256:=om;have hL:=lkP_ok (hi:=p.high) hg kk hk;have hbok:∀ q,(be1 q).ok:=(by rw [hbe1];exact links_ok hL hβ)
  refine hw_exit ?_
  refine hq_then_exit<|hq_then_exit<|hq_block_here<|h15 _<|hw_seq fun Nh29 h29=>srg fun N h30=>sa<|snl h30<|hw_block ?_
  refine hw_loopc (α:=Nat×(Nat→Bag)) (fun x c=>⟨233,[(0,.v (.pt 9101 g1 0 0)),(8,.v (.pt 9208 k0 0 0)),(9,.v (.pt 9209 (k0+1) 0 0)),(10,.v (.pt 9210 (k0+3) 0 0)),(16,.v (intV (many:Int))),(17,.v (.os 9117 gr 0 (pcsP g kk).length)),(21,.v (intV (x.1:Int)))],[(9101,ndO g1 (.os 9102 y2 0 MM) (.os 9103 y3 0 MM) p0),(9102,lrO y2 MM (onF on1)),(9103,lrO y3 MM x.2),(9208,ndO k0 nilS nilS default),(9209,⟨k0+1,1,5,27,0,fun _=>ptF p⟩),(9210,ndO (k0+3) nilS nilS (outJ g x.1)),(9117,⟨gr,(pcsP g kk).length,5,55,0,ndsF (pcsP g kk)⟩)],c⟩) (fun x=>x.1≤many∧x.1≤p.low.toNat∧x.2=links be1 (lkJ g x.1)) (fun x=>many - x.1) ((0,be1)) (by exact ⟨Nat.zero_le _,Nat.zero_le _,by simp [lkJ,links]⟩) (hsub_of rfl (Nat.le_refl _) tsa hsa) (fun x c hx NhL31 hL31=>?_)
  revert hx hL31;obtain ⟨k2,be3⟩:=x;intro hx hL31;dsimp only at hx hL31 ⊢
  obtain ⟨hk2,hk2l,hbe3⟩:=hx
  have hJ:=lkJ_ok hg k2 hk2;have hO:=outJ_ok hg k2 hk2;have hkk2:M0+k2 * u.w≤MM:=(by have:=Nat.mul_le_mul_right u.w hk2;omega);have hb3:∀ q,(be3 q).ok:=(by rw [hbe3];exact links_ok hJ hbok);have hino:InB M0 MM (outJ g k2).ends:=hO.2.2.mono (Nat.le_refl _) hkk2
  refine hw_seq fun Nh32 h32=>srg fun N h33=>sm<|sm ?_
  refine s0 hli ?_
  refine sm ?_
  refine gm 197 ?_
  refine stg 197 (fun hb=>hop_fa fd_27_1 rfl) rfl rfl rfl rfl rfl ?_
  refine hq_g 200 3 197 true _ (fun hb=>hol_load ty_3 rfl (nb rfl) (nb rfl) rq) rfl rfl rfl rfl (pre1 rfl) rfl rfl rfl ?_
  refine stg 197 (fun hb=>hop_lss rfl rfl) rfl rfl rfl rfl rfl ?_
  refine hq_p 202 (hstep_and _ _ rfl rfl rfl) rfl rfl rfl ?_
  refine nu ?_
  refine h33 _ ?_
  refine wc (fun hc9=>?_) (fun hc9=>?_)
  ·have hr9:=hc9;(try simp only [hcs,Int.reduceToNat] at hc9)
   have hk2m:k2 < many:=om;have hk2p:k2 < p.low.toNat:=om;have hgo:=hg k2 hk2m
   refine hw_skip<|h32 _<|hw_seq fun Nh34 h34=>hw_block<|hw_region<|sm<|sm<|sm ?_
   refine st1 (hol_ia_os el_132 rfl rfl om om) rfl rfl rfl ?_
   refine st1 (HOp.val (v':=ndV (g k2).pc) (hol_load ty_55 rfl (by omega) (nb rfl) (fun h=>(by cases h))) (nds_at (l:=pcsP g kk) (i:=k2) (by rw [hkm];exact pcsP_get g many k2 hk2m) (fun j=>by simp only [Nat.zero_add];rfl))) rfl rfl rfl ?_
   refine hm_ 210 (hop_funD (xs:=[_,_,_]) (pre:=[(9101,_),(9102,_),(9103,_),(9210,_)]) (seq_h9210 (outJ g k2) (g k2).pc hO.1 hgo.pc MM g1 y2 y3 (k0+3) (onF on1) be3 p0 (inB_lt hino) hM256) ((clkS rfl rfl rfl rfl)) ⟨rfl,⟨rfl,⟨rfl,trivial⟩⟩⟩) rfl rfl (preC rfl (preC rfl (preC rfl (preC rfl pre0)))) rfl rfl (c':=c+1) rfl ?_
   refine hseq_nil<|hq_block<|h34 _<|hw_region<|sm ?_
   refine s0 hai ?_
   refine sa<|hseq_nil ?_
   exact hL31 ((k2+1,linkF be3 ((outJ g k2).ends,(g k2).pc.first))) _ _ (by (try dsimp only);exact ⟨by omega,by omega,by rw [hbe3];simp only [lkJ];rw [links_app];rfl⟩) (by (try dsimp only);omega) (hsub_of rfl (Nat.le_refl _) tsa hsa)
  have hr9:=hc9;(try simp only [hcs,Int.reduceToNat] at hc9)
  have hke:k2=min many p.low.toNat:=(by have h:=hr9;simp at h;omega);let kt:=c
  refine hw_exit ?_
  refine hq_then_exit<|hq_then_exit<|hq_block_here<|h29 _<|srg fun N h35=>?_
  refine s0 (hop_build (hs:=[(4,1,_)]) st_55 rfl rfl ⟨rfl,rfl,rfl,rfl,rfl,trivial⟩) ?_
  refine hm_1 22 (hop_alloc (id:=9222) (sz:=5) zc_55 rfl rfl (nb rfl) (nb rfl)) rfl rfl pre0 rfl rfl (c':=c+1) rfl ?_
  refine sw (c+2) ty_55 ?_
  refine snl h35<|hw_seq fun Nh36 h36=>srg fun N h37=>sm ?_
  refine s0 hsi ?_
  refine sa<|snl h37<|hw_block ?_
  refine hw_loopc (α:=Nat×(Nat→Bag)×Pc) (fun x c=>⟨233,[(0,.v (.pt 9101 g1 0 0)),(8,.v (.pt 9208 k0 0 0)),(9,.v (.pt 9209 (k0+1) 0 0)),(10,.v (.pt 9210 (k0+3) 0 0)),(17,.v (.os 9117 gr 0 (pcsP g kk).length)),(22,.v (.pt 9222 kt 0 0)),(23,.v (intV ((many:Int) - 1 - (x.1:Int))))],[(9101,ndO g1 (.os 9102 y2 0 MM) (.os 9103 y3 0 MM) p0),(9102,lrO y2 MM (onF on1)),(9103,lrO y3 MM x.2.1),(9208,ndO k0 nilS nilS default),(9209,⟨k0+1,1,5,27,0,fun _=>ptF p⟩),(9210,ndO (k0+3) nilS nilS (outJ g k2)),(9117,⟨gr,(pcsP g kk).length,5,55,0,ndsF (pcsP g kk)⟩),(9222,ndO kt nilS nilS x.2.2)],c⟩) (fun x=>x.1≤R.length∧x.2.1=links be3 (tailB (R.drop (R.length - x.1))).1∧x.2.2=(tailB (R.drop (R.length - x.1))).2) (fun x=>R.length - x.1) ((0,be3,Pc.nil)) (by exact ⟨Nat.zero_le _,by simp [tailB,links],by simp [tailB]⟩) (hsub_of rfl (Nat.le_refl _) (tsr rfl (tsr rfl (tsr rfl (tsr rfl (tsr rfl (tsr rfl (TmSub.cons rfl (sb_int om) TmSub.nil))))))) (hsr rfl (hsr rfl (hsr rfl (hsr rfl (hsr rfl (hsr rfl (hsr rfl (HpSub.cons rfl (osub_nd0 rfl rfl rfl rfl rfl rfl rfl) HpSub.nil))))))))) (fun x c hx NhL38 hL38=>?_)
  revert hx hL38;obtain ⟨j4,be4,ta4⟩:=x;intro hx hL38;dsimp only at hx hL38 ⊢
  obtain ⟨hj4,hbe4,hta4⟩:=hx
  have htt:=tailB_ok (N:=M0) (M:=M0+many * u.w) (l:=R.drop (R.length - j4)) (fun x hx=>hRo x (List.mem_of_mem_drop hx));have hto:ta4.ok:=(by rw [hta4];exact htt.2.1);have hb4:∀ q,(be4 q).ok:=(by rw [hbe4];exact links_ok htt.1 hb3)
  refine hw_seq fun Nh39 h39=>srg fun N h40=>sm ?_
  refine sf fd_27_1 ?_
  refine sl ty_3 ?_
  refine s0 (hop_geq rfl rfl) ?_
  refine snl h40 ?_
  refine wc (fun hc10=>?_) (fun hc10=>?_)
  ·have hr10:=hc10;(try simp only [hcs,Int.reduceToNat] at hc10)
   have hjl:j4 < R.length:=om;have hxm:=hRo _ (getD_mem (l:=R) (j:=R.length - 1 - j4) om);have hxin:InB M0 MM (R.getD (R.length - 1 - j4) default).ends:=(by rw [hMm];exact hxm.2.2);have hidx:many - 1 - j4 < many:=om;have hRg:(g (many - 1 - j4)).pc=R.getD (R.length - 1 - j4) default:=(by rw [hR,restP_get _ _ _ _ (by rw [restP_len] ; omega),restP_len];congr 2;omega)
   refine hw_skip<|h39 _<|hw_seq fun Nh41 h41=>hw_block<|srg fun N h42=>sm ?_
   refine s0 (HOp.val (v':=intV ((many - 1 - j4:Nat):Int)) (hop_move rfl) (congrArg intV (by omega))) ?_
   refine st1 (hol_ia_os el_132 rfl rfl om om) rfl rfl rfl ?_
   refine st1 (HOp.val (v':=ndV (R.getD (R.length - 1 - j4) default)) (hol_load ty_55 rfl (by omega) (nb rfl) (fun h=>(by cases h))) (nds_at (l:=pcsP g kk) (i:=many - 1 - j4) (by rw [hkm,pcsP_get g many _ hidx];exact hRg) (fun j=>by simp only [Nat.zero_add];rfl))) rfl rfl rfl ?_
   refine hm_1 24 (hop_alloc (id:=9224) (sz:=5) zc_55 rfl rfl (nb rfl) (nb rfl)) rfl rfl pre0 rfl rfl (c':=c+1) rfl ?_
   refine sw (c+2) ty_55 ?_
   refine snl h42<|srg fun N h43=>sm ?_
   refine st1 (HOp.val (v':=ndV ta4) (hol_load ty_55 rfl (nb rfl) (nb rfl) (fun h=>(by cases h))) (rfl)) rfl rfl rfl ?_
   refine hm_ 226 (hop_funD (xs:=[_,_,_]) (pre:=[(9101,_),(9102,_),(9103,_),(9224,_)]) (seq_h9224 (R.getD (R.length - 1 - j4) default) ta4 hxm.1 hto MM g1 y2 y3 _ (onF on1) be4 p0 (inB_lt hxin) hM256) ((clkS rfl rfl rfl rfl)) ⟨rfl,⟨rfl,⟨rfl,trivial⟩⟩⟩) rfl rfl (preC rfl (preC rfl (preC rfl (preC rfl pre0)))) rfl rfl (c':=c+3) rfl ?_
   refine snl h43<|srg fun N h44=>?_
   refine sf fd_55_4 ?_
   refine sx (c+4) ty_4 ?_
   refine snl h44<|hw_region ?_
   refine sl ty_55 ?_
   refine sw (c+5) ty_55 ?_
   refine hseq_nil<|hq_block<|h41 _<|hw_region<|sm ?_
   refine s0 hsi ?_
   refine sa<|hseq_nil ?_
   exact hL38 ((j4+1,linkF be4 ((R.getD (R.length - 1 - j4) default).ends,ta4.first),{ (R.getD (R.length - 1 - j4) default).join ta4 with empty:=true })) _ _ (by (try dsimp only);exact ⟨by omega,by rw [drop_at hjl,hbe4,hta4];simp only [tailB];rw [links_app];rfl,by rw [drop_at hjl,hta4];rfl⟩) (by (try dsimp only);omega) (hsub_of rfl (Nat.le_refl _) (tsr rfl (tsr rfl (tsr rfl (tsr rfl (tsr rfl (tsr rfl (TmSub.cons rfl (sb_int om) TmSub.nil))))))) (hsr rfl (hsr rfl (hsr rfl (hsr rfl (hsr rfl (hsr rfl (hsr rfl (HpSub.cons rfl (osub_ndv (by exact jn5 rfl rfl rfl rfl rfl)) HpSub.nil)))))))))
  have hr10:=hc10;(try simp only [hcs,Int.reduceToNat] at hc10)
  have hje:j4=R.length:=om;have hta:ta4=(tailB R).2:=(by rw [hta4,hje,Nat.sub_self,List.drop_zero]);have hbe:be4=links be3 (tailB R).1:=(by rw [hbe4,hje,Nat.sub_self,List.drop_zero])
  refine hw_exit ?_
  refine hq_then_exit<|hq_then_exit<|hq_block_here<|h36 _<|srg fun N h45=>sm ?_
  refine st1 (HOp.val (v':=ndV ta4) (hol_load ty_55 rfl (nb rfl) (nb rfl) (fun h=>(by cases h))) (rfl)) rfl rfl rfl ?_
  refine hm_ 231 (hop_funD (xs:=[_,_,_]) (pre:=[(9101,_),(9102,_),(9103,_),(9210,_)]) (seq_h9210 (outJ g k2) ta4 hO.1 hto MM g1 y2 y3 (k0+3) (onF on1) be4 p0 (inB_lt hino) hM256) ((clkS rfl rfl rfl rfl)) ⟨rfl,⟨rfl,⟨rfl,trivial⟩⟩⟩) rfl rfl (preC rfl (preC rfl (preC rfl (preC rfl pre0)))) rfl rfl (c':=c+1) rfl ?_
  refine snl h45<|srg fun N h46=>?_
  refine sl ty_55 ?_
  refine sw (c+2) ty_55 ?_
  refine snl h46<|hw_ret ?_
  refine hf_retR1 ok hX RetS.one rfl (rvl_cell rfl rfl ty_55 rqc rfl rfl) [] rfl pre0 ((y2,y3)) (trivial) (by rfl) (by rfl) ((by rw [hdoc.2.2,←hke,←hta];exact kz_nd (by exact jn5 rfl rfl rfl rfl rfl))) ?_
  exact ⟨⟨_,rfl,(by rw [←hMm];exact okz_netD rfl rfl rfl rfl)⟩,⟨⟨_,rfl,(by rw [←hMm,hdoc.1,hon1,hkm];exact okz_lrow (fun _ _=>rfl))⟩,⟨⟨_,rfl,(by rw [←hMm,←hdoc.2.1,←hke,←hta];exact okz_lrow (fun q _=>by rw [hbe,hbe3,hbe1,hkm];rfl))⟩,trivial⟩⟩⟩
theorem manyP_ex (k:Int) (out:List Pt) (ks:List Int):∃ y,manyP k out ks y:=by
 unfold manyP
 split
 ·exact ⟨(0,out,ks.getD 0 0),rfl⟩
 ·exact ⟨(0,out++[⟨k,0,0,[],ks⟩],(out.length:Int)),rfl⟩
theorem ex_item {l:List Sg} (hk:KdOk l) (hne:l≠[]) {p:Nat} (hp:p≤l.length) (out:List Pt) (hc:∀ p',p < p'→p'≤l.length→∀ out,∃ x,RsOk l 3 p' out x):∃ x,RsOk l 1 p out x:=by
  by_cases h1:kd l p=1
  · by_cases h5:kd l (p+1)=5
    · exact ⟨_,ok_name5 (g:=0) h1 h5⟩
    · exact ⟨_,ok_name (g:=0) h1 h5⟩
  · by_cases h2:kd l p=2
    · have hlt:=kd_lt (l:=l) (i:=p) (by rw [h2];decide)
      obtain ⟨⟨t,q,g,o,r⟩,hx⟩:=hc (p+1) (by omega) (by omega) out
      cases t with
      | none=>exact ⟨_,ok_bad hk hx h2 (.inl rfl)⟩
      | some t =>
        by_cases h3:kd l q=3
        · by_cases h5:kd l (q+1)=5
          · exact ⟨_,ok_group5 (g':=0) hx h2 h3 h5⟩
          · exact ⟨_,ok_group hx h2 h3 h5⟩
        · exact ⟨_,ok_bad hk hx h2 (.inr h3)⟩
    · exact ⟨⟨none,p,0,out,-1⟩,bad_first hne hp h1 h2,by simp⟩
theorem ex_rowI {l:List Sg} {p:Nat} {out:List Pt} (hi:∀ p',p≤p'→p'≤l.length→∀ out,∃ x,RsOk l 1 p' out x):∀ (n:Nat) (bad:Bool) (q:Nat) (o:List Pt) (ks:List Int),2 * (l.length - q)+(if bad then 0 else 1) < n→RowI l p out bad q o ks→∃ x,RsOk l 2 p out x
  | 0,_,_,_,_,h,_=>absurd h (Nat.not_lt_zero _)
  | n + 1, bad, q, o, ks, h, hI => by
    by_cases hk:bad=true∨(kd l q≠1∧kd l q≠2)
    · obtain ⟨tt,_,hd⟩:=row_done hI hk
      obtain ⟨y,hy⟩:=manyP_ex 2 o ks
      exact ⟨_,hd y hy⟩
    · have hb:bad=false:=by cases bad with | true=>exact absurd (.inl rfl) hk | false=>rfl
      subst hb
      have hkq:kd l q=1∨kd l q=2:=by
        by_cases h1:kd l q=1
        · exact .inl h1
        · by_cases h2:kd l q=2
          · exact .inr h2
          · exact absurd (.inr ⟨h1,h2⟩) hk
      obtain ⟨⟨t,q',g,o',r⟩,hx⟩:=hi q hI.2.1 hI.2.2.1 o
      have:=rs_meas hx
      exact ex_rowI hi n t.isNone q' o' (ks++[r]) (by omega) (row_next hI hkq hx)
theorem ex_row {l:List Sg} {p:Nat} (hp:p≤l.length) (out:List Pt) (hi:∀ p',p≤p'→p'≤l.length→∀ out,∃ x,RsOk l 1 p' out x):∃ x,RsOk l 2 p out x:=by
 obtain ⟨⟨t,q,g,o,r⟩,hx⟩:=hi p (Nat.le_refl _) hp out
 exact ex_rowI hi _ _ _ _ _ (Nat.lt_succ_self _) (row_start hx)
theorem ex_chI {l:List Sg} {p:Nat} {out:List Pt} (hi:∀ p',p≤p'→p'≤l.length→∀ out,∃ x,RsOk l 2 p' out x):∀ (n:Nat) (bad:Bool) (q:Nat) (o:List Pt) (ks:List Int),2 * (l.length - q)+(if bad then 0 else 1) < n→ChI l p out bad q o ks→∃ x,RsOk l 3 p out x
  | 0,_,_,_,_,h,_=>absurd h (Nat.not_lt_zero _)
  | n + 1, bad, q, o, ks, h, hI => by
    by_cases hk:bad=true∨kd l q≠4
    · obtain ⟨tt,_,hd⟩:=ch_done hI hk
      obtain ⟨y,hy⟩:=manyP_ex 3 o ks
      exact ⟨_,hd y hy⟩
    · have hb:bad=false:=by cases bad with | true=>exact absurd (.inl rfl) hk | false=>rfl
      subst hb
      have hkq:kd l q=4:=Classical.byContradiction fun h'=>hk (.inr h')
      have hlt:=kd_lt (l:=l) (i:=q) (by rw [hkq];decide)
      have hpq:=hI.2.1
      obtain ⟨⟨t,q',g,o',r⟩,hx⟩:=hi (q+1) (by omega) (by omega) o
      have:=ch_meas hlt hx
      exact ex_chI hi n t.isNone q' o' (ks++[r]) (by omega) (ch_next hI hkq hx)
theorem ex_choice {l:List Sg} {p:Nat} (hp:p≤l.length) (out:List Pt) (hi:∀ p',p≤p'→p'≤l.length→∀ out,∃ x,RsOk l 2 p' out x):∃ x,RsOk l 3 p out x:=by
 obtain ⟨⟨t,q,g,o,r⟩,hx⟩:=hi p (Nat.le_refl _) hp out
 exact ex_chI hi _ _ _ _ _ (Nat.lt_succ_self _) (ch_start hx)
theorem ex_read {l:List Sg} (hk:KdOk l) (hne:l≠[]):∀ n p,l.length - p < n→p≤l.length→∀ out,∃ x,RsOk l 3 p out x
 | 0,p,h,_,_=>absurd h (Nat.not_lt_zero _)
 | n+1,p,h,hp,out=>ex_choice hp out fun p1 h1 hp1 out1=>ex_row hp1 out1 fun p2 h2 hp2 out2=>ex_item hk hne hp2 out2 fun p3 h3 hp3 out3=>ex_read hk hne n p3 (by omega) hp3 out3
theorem parse_ex (s:List UInt8):∃ r,ParseIs s r:=by
  cases hv:lexV s with
  | error e=>exact ⟨_,.err e hv⟩
  | ok l =>
    by_cases hne:l=[]
    · subst hne;exact ⟨_,.none hv⟩
    · have hk:=sgW_kd (lexV_W hv)
      obtain ⟨x,hx⟩:=ex_read hk hne _ 0 (Nat.lt_succ_self _) (Nat.zero_le _) []
      by_cases hq:x.q < l.length
      · exact ⟨_,parse_odd hv hk hne hx hq⟩
      · cases hb : x.t.isNone with
        | true=>exact ⟨_,parse_end hv hne hx (by omega) hb⟩
        | false=>exact ⟨_,parse_ok hv hx (by omega) hb⟩
theorem part_one (l:List Mn) (hB:MnB l) (e:List Pt) (he:e.length≤100000) (b:Nat) (t:T) (hok:t.ok=true) (hat:AtP e b (T.flat b t)) (hkl:t.kidsT.length≤100000)
  (ih:∀ i,i < t.kidsT.length→LayD l e (b+T.sizeL (t.kidsT.take i)) (t.kidsT.getD i default)):LayD l e b t:=by
 by_cases h:t.kind=4
 ·exact part_times l hB e he b t h hok hat hkl ih
 ·exact part_row l hB e he b t h hok hat hkl ih
mutual
theorem partT_h (l:List Mn) (hB:MnB l) (e:List Pt) (he:e.length≤100000):∀ (t:T) (b:Nat),t.ok=true→AtP e b (T.flat b t)→LayD l e b t
  | .name s,b,hok,hat=>part_one l hB e he b (.name s) hok hat (Nat.zero_le _) (fun i hi=>absurd hi (Nat.not_lt_zero _))
  | .times lo hi t, b, hok, hat => by
    have hok':t.ok=true:=by simp only [T.ok,Bool.and_eq_true] at hok;exact hok.2
    refine part_one l hB e he b (.times lo hi t) hok hat (by simp [T.kidsT]) (fun i hi=>?_)
    obtain rfl:i=0:=by simpa [T.kidsT] using hi
    have:=partT_h l hB e he t b hok' (by simp only [T.flat] at hat;exact atP_left hat)
    simpa [T.kidsT,T.sizeL] using this
  | .many k ts, b, hok, hat => by
    have hok':T.okL ts=true:=by simp only [T.ok,Bool.and_eq_true] at hok;exact hok.2
    have hkl:(T.many k ts).kidsT.length≤100000:=by
      have:=kids_few2 (t:=.many k ts);have:=(at_top hat).2;omega
    exact part_one l hB e he b (.many k ts) hok hat hkl (fun i hi=>partL_h l hB e he ts hok' i hi _ (kids_at' hat hi))
theorem partL_h (l:List Mn) (hB:MnB l) (e:List Pt) (he:e.length≤100000):∀ ts:List T,T.okL ts=true→∀ i,i < ts.length→∀ b,AtP e b (T.flat b (ts.getD i default))→LayD l e b (ts.getD i default)
  | [],_,i,hi=>absurd hi (Nat.not_lt_zero _)
  | t :: ts, hok, i, hi => fun b hat => by
    simp only [T.okL,Bool.and_eq_true] at hok
    cases i with
    | zero=>exact partT_h l hB e he t b hok.1 hat
    | succ i=>exact partL_h l hB e he ts hok.2 i (by simpa using hi) b (by simpa using hat)
end
@[reducible] def ndR (M:Nat) (on:List Bag) (β:Nat→Bag) (p:Pc):HV:=.agg 5 (ndF (.sl 1 M (lrF (onF on))) (.sl 1 M (lrF β)) p 0)
instance frz_ndR (M:Nat) (on:List Bag) (β:Nat→Bag) (p:Pc):Frz (ndR M on β p):=⟨.agg _ _ _ (by exact jn5 (.sl _ _ _ _ fun _ _ _ _=>Frz.fz) (.sl _ _ _ _ fun _ _ _ _=>Frz.fz) (show Fz _ (iListV p.first.list) (iListV p.first.list) from Frz.fz) (show Fz _ (iListV p.ends.list) (iListV p.ends.list) from Frz.fz) (.imm _))⟩
theorem fz_ndR {sh:List (Nat×HObj)} {M:Nat} {on:List Bag} {β:Nat→Bag} {p:Pc} {f:Nat→HV} (h0:Fz sh (f 0) (.sl 1 M (lrF (onF on)))) (h1:Fz sh (f 1) (.sl 1 M (lrF β))) (h2:Fz sh (f 2) (iListV p.first.list)) (h3:Fz sh (f 3) (iListV p.ends.list)) (h4:f 4=boolV p.empty):Fz sh (.agg 5 f) (ndR M on β p) :=
 .agg _ _ _ (by exact jn5 h0 h1 h2 h3 (by rw [h4];exact .imm _))
theorem fz_zl {sh:List (Nat×HObj)}:Fz sh nilS (iListV Bag.zero.list):=by rw [zero_list];exact .nil 0 1 _ (by decide) none
theorem fz_lrow {sh:List (Nat×HObj)} {id g n n':Nat} {γ γ':Nat→Bag} (ho:(id,lrO g n γ)∈sh) (hn:n'=n) (h:∀ i,i < n→γ i=γ' i):Fz sh (.os id g 0 n') (.sl 1 n' (lrF γ')):=by
 subst hn
 refine Fz.os id g 0 n' (lrO g n' γ) _ ho rfl (by show 0+n'≤n';omega) (fun i j hi hj=>?_)
 show Fz sh (iListV (γ (0+i)).list) (iListV (γ' i).list)
 rw [Nat.zero_add,h i hi];exact Frz.fz
def nd2 (a b:HV):Nat→Nat→HV:=fun _ j=>match j with | 0=>a | 1=>b | 2=>nilS | 3=>nilS | _=>boolV true
theorem refNil_h (l:List Mn):HPure Tryz.prog 26 [ptsV [],mnsV l] (ndR 0 [] (fun _=>Bag.zero) Pc.nil):=by
 refine hpure_of Tryz.func26 rfl kr _ _ _ rfl 28 rfl rfl (fun w F=>?_)
 refine srg fun N h1=>?_
 refine hm_1 4 (hop_alloc (id:=4) (sz:=5) zc_55 rfl rfl (nb rfl) (nb rfl)) rfl rfl pre0 rfl rfl (c':=1) rfl ?_
 refine snl h1<|srg fun N h2=>?_
 refine s0 (hop_build (hs:=[(4,1,_)]) st_55 rfl rfl ⟨rfl,rfl,rfl,rfl,rfl,trivial⟩) ?_
 refine hm_1 5 (hop_alloc (id:=5) (sz:=5) zc_55 rfl rfl (nb rfl) (nb rfl)) rfl rfl pre0 rfl rfl (c':=2) rfl ?_
 refine sw (3) ty_55 ?_
 refine snl h2<|hw_seq fun Nh3 h3=>srg fun N h4=>sm ?_
 refine s0 (hnl el_22) ?_
 refine s0 hqi ?_
 refine snl h4 ?_
 refine wc (fun hc0=>?_) (fun hc0=>?_)
 ·have hr0:=hc0;(try simp only [hcs,Int.reduceToNat] at hc0)
  refine srg fun N h5=>?_
  refine sl ty_55 ?_
  refine sw (4) ty_55 ?_
  refine snl h5<|hw_ret<|hq_then_ret ?_
  refine hq_ret1 rfl (rvl_cell rfl rfl ty_55 rqc rfl rfl) [] rfl pre0 ?_
  exact fz_ndR (.nil 0 1 _ (by decide) none) (.nil 0 1 _ (by decide) none) fz_zl fz_zl rfl
 have hr0:=hc0;(try simp only [hcs,Int.reduceToNat] at hc0)
 exfalso;exact absurd hc0 (by simp)
theorem refNet_h (l:List Mn) (hB:MnB l) (t:T) (hok:t.ok=true) (he:(T.flat 0 t).length≤100000) (hw:t.w≤256):HPure Tryz.prog 26 [ptsV (T.flat 0 t),mnsV l] (ndR (0+t.w) (lay (meansV l) t 0).on (links (fun _=>Bag.zero) (lay (meansV l) t 0).lk) (lay (meansV l) t 0).pc):=by
 have hat:AtP (T.flat 0 t) 0 (T.flat 0 t):=⟨[],[],by simp,rfl⟩
 have hsz:(T.flat 0 t).length=t.size:=T.flat_len 0 t
 have hps:=t.size_pos
 obtain ⟨e,hee⟩:∃ e,e=T.flat 0 t:=⟨_,rfl⟩
 have hP:=partT_h l hB e (by rw [hee];exact he) t 0 hok (by rw [hee];exact hat)
 rw [←hee] at he hsz ⊢
 refine hpure_of Tryz.func26 rfl kr _ _ _ rfl 28 rfl rfl (fun w F=>?_)
 refine srg fun N h1=>?_
 refine hm_1 4 (hop_alloc (id:=4) (sz:=5) zc_55 rfl rfl (nb rfl) (nb rfl)) rfl rfl pre0 rfl rfl (c':=1) rfl ?_
 refine snl h1<|srg fun N h2=>?_
 refine s0 (hop_build (hs:=[(4,1,_)]) st_55 rfl rfl ⟨rfl,rfl,rfl,rfl,rfl,trivial⟩) ?_
 refine hm_1 5 (hop_alloc (id:=9101) (sz:=5) zc_55 rfl rfl (by decide) (by decide)) rfl rfl pre0 rfl rfl (c':=2) rfl ?_
 refine sw (3) ty_55 ?_
 refine snl h2<|hw_seq fun Nh3 h3=>srg fun N h4=>sm ?_
 refine s0 (hnl el_22) ?_
 refine s0 hqi ?_
 refine snl h4 ?_
 refine wc (fun hc0=>?_) (fun hc0=>?_)
 ·have hr0:=hc0;(try simp only [hcs,Int.reduceToNat] at hc0)
  exfalso;omega
 have hr0:=hc0;(try simp only [hcs,Int.reduceToNat] at hc0)
 refine hw_skip<|h3 _<|hw_seq fun Nh5 h5=>?_
 refine (hsub_ownc 9101 0 9102 1 25 (lrF (onF [])) (nd2 (.os 9102 3 0 0) nilS) rfl rfl (by exact jn5 (.inl ⟨rfl,rfl⟩) (.inr rfl) (.inr rfl) (.inr rfl) (.inr rfl)) (by decide) (by decide) (c':=4) rfl).wp ?_;refine (hsub_ownc 9101 1 9103 1 25 (lrF (fun _=>Bag.zero)) (nd2 (.os 9102 3 0 0) (.os 9103 4 0 0)) rfl rfl (by exact jn5 (.inr rfl) (.inl ⟨rfl,rfl⟩) (.inr rfl) (.inr rfl) (.inr rfl)) (by decide) (by decide) (c':=5) rfl).wp ?_;refine (hsub_ob 9101 (ndO 1 (.os 9102 3 0 0) (.os 9103 4 0 0) Pc.nil) rfl (by exact osub_nd (.refl _) (.refl _) sb_zl sb_zl (.refl _))).wp ?_
 refine hw_region<|sm<|sm ?_
 refine s0 (hnl el_22) ?_
 refine s0 (HOp.val (v':=intV ((0+t.size - 1:Nat):Int)) (hop_subi rfl rfl rfl (by omega) (by omega)) (congrArg intV (by omega))) ?_
 refine sm ?_
 refine hf_callR 17 (xs:=[_,_,_,_]) (pre:=[(9101,_),(9102,_),(9103,_)]) (hP _ 1 3 4 0 [] (fun _=>Bag.zero) Pc.nil rfl om (fun _=>Bag.zero_ok) (fun _ _ _=>rfl)) ⟨rfl,⟨rfl,⟨rfl,⟨rfl,trivial⟩⟩⟩⟩ (preC rfl (preC rfl (preC rfl pre0))) rfl rfl (fun x1 c1 hyy=>?_)
 obtain ⟨y2,y3⟩:=x1
 (try dsimp only)
 refine hm_1 6 (hop_alloc (id:=6) (sz:=5) zc_55 rfl rfl (nb rfl) (nb rfl)) rfl rfl pre0 rfl rfl (c':=c1+1) rfl ?_
 refine sw (c1+2) ty_55 ?_
 refine snl h5<|srg fun N h6=>?_
 refine sf fd_55_2 ?_
 refine sl ty_25 ?_
 refine sf fd_55_2 ?_
 refine sx (c1+3) ty_25 ?_
 refine snl h6<|srg fun N h7=>?_
 refine sf fd_55_3 ?_
 refine sl ty_25 ?_
 refine sf fd_55_3 ?_
 refine sx (c1+4) ty_25 ?_
 refine snl h7<|srg fun N h8=>?_
 refine sf fd_55_4 ?_
 refine sl ty_4 ?_
 refine sf fd_55_4 ?_
 refine sx (c1+5) ty_4 ?_
 refine snl h8<|srg fun N h9=>?_
 refine sl ty_55 ?_
 refine sw (c1+6) ty_55 ?_
 refine snl h9<|hw_ret ?_
 refine hq_ret1 rfl (rvl_cell rfl rfl ty_55 rqc rfl rfl) [(9102,_),(9103,_)] rfl (preC rfl (preC rfl pre0)) ?_
 exact fz_ndR (fz_lrow (.head _) rfl (fun _ _=>rfl)) (fz_lrow (.tail _ (.head _)) rfl (fun _ _=>rfl)) (show Fz _ (iListV (lay (meansV l) t 0).pc.first.list) (iListV (lay (meansV l) t 0).pc.first.list) from Frz.fz) (show Fz _ (iListV (lay (meansV l) t 0).pc.ends.list) (iListV (lay (meansV l) t 0).pc.ends.list) from Frz.fz) rfl
@[reducible] def t4 (a b c d:HV):HV:=.tup 4 (fun i=>match i with | 0=>a | 1=>b | 2=>c | _=>d)
theorem hq_ret4 {P:Program} {w:World} {F:Addr→Prop} {fn:Func} {rv1 rv2 rv3 rv4:ResultVar} {s:HSt} {x1 x2 x3 x4 y:HV} (hres:fn.results=#[rv1,rv2,rv3,rv4]) (hrv1:RVal P s rv1 x1) (hrv2:RVal P s rv2 x2) (hrv3:RVal P s rv3 x3) (hrv4:RVal P s rv4 x4) (sh:List (Nat×HObj)) (hd:dupfree (sh.map (·.1))=true) (hsh:∀ p∈sh,hget s.hp p.1=some p.2)
  (hz:Fz sh (t4 x1 x2 x3 x4) y):HQ (Ctx.top w F) (bodyPost P fn (PurePost w F y)) .ret s:=by
 intro a w' ⟨E,e0,r,hG,hsz,hdf,ht⟩
 obtain ⟨v1,h1,g1⟩:=hrv1 (Ctx.top w F) a w' E r ht
 obtain ⟨v2,h2,g2⟩:=hrv2 (Ctx.top w F) a w' E r ht
 obtain ⟨v3,h3,g3⟩:=hrv3 (Ctx.top w F) a w' E r ht
 obtain ⟨v4,h4,g4⟩:=hrv4 (Ctx.top w F) a w' E r ht
 have hrep:Rep w' E (.tuple #[v1,v2,v3,v4]) (.tup 4 (fun i=>match i with | 0=>x1 | 1=>x2 | 2=>x3 | _=>x4)) :=
  .tup _ 4 _ (fun i=>match i with | 0=>v1 | 1=>v2 | 2=>v3 | _=>v4) rfl (fun i hi=>by match i,hi with | 0,_=>rfl | 1,_=>rfl | 2,_=>rfl | 3,_=>rfl) (fun i hi=>by match i,hi with | 0,_=>exact g1 | 1,_=>exact g2 | 2,_=>exact g3 | 3,_=>exact g4)
 refine ⟨hdf,_,?_,PurePost.of e0 r sh hd hsh hz hrep⟩
 have:(results fn a.tmps).run P w'=.ok (.tuple #[v1,v2,v3,v4]) w':=by
  unfold results
  rw [hres]
  cases rv1 <;> cases rv2 <;> cases rv3 <;> cases rv4 <;> (simp [Sem.run_bind] at h1 h2 h3 h4 ⊢)
  all_goals first | done | (try (first | rw [andThen_chain h1] | skip);try (first | rw [andThen_chain h2] | skip);try (first | rw [andThen_chain h3] | skip);try (first | rw [andThen_chain h4] | skip);try simp [h1,h2,h3,h4])
 exact this
theorem fz_t4 {sh:List (Nat×HObj)} {x1 x2 x3 x4 y1 y2 y3 y4:HV} (h1:Fz sh x1 y1) (h2:Fz sh x2 y2) (h3:Fz sh x3 y3) (h4:Fz sh x4 y4):Fz sh (t4 x1 x2 x3 x4) (t4 y1 y2 y3 y4):=.tup _ _ _ fun i hi=>by
 match i,hi with
 | 0,_=>exact h1 | 1,_=>exact h2 | 2,_=>exact h3 | 3,_=>exact h4
@[reducible] def nilP:HV:=.imm (.pointer none)
theorem nempty_h (wd:Nat) (on:List Bag) (β:Nat→Bag) (p:Pc):HPure Tryz.prog 14 [netP wd on β p] (boolV p.empty):=by
 refine hpure_of Tryz.func14 rfl kr _ _ _ rfl 11 rfl rfl (fun w F=>?_)
 refine srg fun N h1=>sa<|snl h1<|srg fun N h2=>sm ?_
 refine s0 (hop_neq_fp rfl rfl rfl) ?_
 refine sm ?_
 refine gm 5 ?_
 refine stg 5 (fun hb=>hop_nilcheck_fp rfl) rfl rfl rfl rfl rfl ?_
 refine stg 5 (fun hb=>hop_fa_fp fd_71_4 rfl (nb rfl)) rfl rfl rfl rfl rfl ?_
 refine stg 5 (fun hb=>hop_load_fp ty_4 rfl (nb rfl) rq) rfl rfl rfl rfl rfl ?_
 refine hq_p 10 (hstep_and _ _ rfl rfl rfl) rfl rfl rfl ?_
 refine sa ?_
 refine nu ?_
 refine h2 _<|hw_ret ?_
 refine hq_ret1 rfl (rval_tmp rfl) [] rfl pre0 ?_
 exact Frz.fz
theorem names_mem:∀ (l:List Pt) (o:List (List UInt8)) (s:List UInt8),(s∈o∨∃ x∈l,x.kind=1∧x.name=s)→s∈l.foldl addN o
  | [],o,s,h=>by rcases h with h | ⟨x,hx,_⟩;exact h;cases hx
  | y :: l, o, s, h => by
    refine names_mem l (addN o y) s ?_
    have hsub:s∈o→s∈addN o y:=fun h=>by unfold addN;split;exact List.mem_append_left _ h;exact h
    rcases h with h | ⟨x,hx,hk,hn⟩
    · exact .inl (hsub h)
    · rcases List.mem_cons.1 hx with rfl | hx
      · left
        by_cases hm:x.name∈o
        · exact hsub (hn▸hm)
        · unfold addN;rw [if_pos ⟨hk,hm⟩,←hn];exact List.mem_append_right _ (List.mem_singleton_self _)
      · exact .inr ⟨x,hx,hk,hn⟩
theorem noneV_E (l:List Mn) (e:List Pt):noneV (meansV l) e=noneE l e:=by
 rw [Bool.eq_iff_iff]
 unfold noneV noneE
 rw [List.any_eq_true,List.any_eq_true]
 constructor
 ·rintro ⟨s,hs,h⟩
  rcases names_from e [] s hs with h' | ⟨x,hx,hk,hn⟩
  ·cases h'
  ·exact ⟨x,hx,by rw [hn,decide_eq_true hk];simpa using h⟩
 ·rintro ⟨x,hx,h⟩
  rw [Bool.and_eq_true,decide_eq_true_eq,decide_eq_true_eq] at h
  exact ⟨x.name,names_mem e [] _ (.inr ⟨x,hx,h.1,rfl⟩),by simpa using h.2⟩
theorem parse_none {s:List UInt8} (hv:lexV s=.ok []) {r:List Pt×Int×Int} (h:ParseIs s r):r=([],0,0):=by
 have hC:chk ([]:List Sg) 0 0 true true=(-1,false):=by rw [chk_end (l:=[]) (i:=0) (Nat.le_refl _)];rfl
 cases h with
 | err e hv'=>rw [hv] at hv';cases hv'
 | none=>rfl
 | odd l q hv' hne=>rw [hv] at hv';injection hv' with hv';exact absurd hv'.symm hne
 | end_ l hv' hne=>rw [hv] at hv';injection hv' with hv';exact absurd hv'.symm hne
 | ok l t hv' hs=>rw [hv] at hv';injection hv' with hv';subst hv';have:=seg_lt hs;simp at this
@[reducible] def NetP (s:List UInt8) (l:List Mn) (y:HV):Prop:=HPure Tryz.prog 12 [strV s,mnsV l] y
structure NetOk (s:List UInt8) (l:List Mn) (w:Nat) (on:List Bag) (β:Nat→Bag) (p:Pc) (e:List Pt):Prop where
 net:NetP s l (t4 (netP w on β p) (ptsV e) (intV 0) (boolV true))
 doc:HPure Tryz.prog 26 [ptsV e,mnsV l] (ndR w on β p)
 none:noneE l e=false
 w60:w≤60
 len:on.length=w
 onk:∀ i,(onF on i).ok
 bek:∀ i,(β i).ok
 pck:p.ok
 eln:e.length≤100000
 mnb:MnB l
 ptb:PtB e
 is:(e=[]∧w=0∧on=[]∧(∀ i,β i=Bag.zero)∧p=Pc.nil)∨∃ t:T,t.ok=true∧e=T.flat 0 t∧w=0+t.w∧on=(lay (meansV l) t 0).on∧β=links (fun _=>Bag.zero) (lay (meansV l) t 0).lk∧p=(lay (meansV l) t 0).pc
theorem net_err (s:List UInt8) (l:List Mn) (hs:s.length≤9223372036854775807) (a b:Int) (hp:ParseIs s ([],a,b)) (hb:b≠0):NetP s l (t4 nilP nilS (intV b) (boolV false)):=by
 refine hpure_of Tryz.func12 rfl kr _ _ _ rfl 63 rfl rfl (fun w F=>?_)
 refine srg fun N h1=>?_
 refine hm_1 3 (hop_box (id:=3) (sz:=1) rfl rfl rfl (nb rfl) (nb rfl)) rfl rfl pre0 rfl rfl (c':=1) rfl ?_
 refine sa<|sa<|sa<|sa<|snl h1<|srg fun N h2=>sm ?_
 refine hf_callR 18 (xs:=[_]) (pre:=[]) (refParse_h s ([],a,b) hs hp _) ⟨rfl,trivial⟩ pre0 rfl rfl (fun u c1 hu=>?_)
 (try dsimp only)
 refine sm ?_
 refine s0 hex ?_
 refine s0 hex ?_
 refine s0 hex ?_
 refine sa<|sa<|sa<|snl h2<|hw_seq fun Nh3 h3=>srg fun N h4=>sm ?_
 refine s0 (hop_neq rfl rfl) ?_
 refine sm ?_
 refine gm 24 ?_
 refine stg 24 (fun hb=>hop_len_strl (T:=9) rfl kr rfl) rfl rfl rfl rfl rfl ?_
 refine stg 24 (fun hb=>hop_gtr rfl rfl) rfl rfl rfl rfl rfl ?_
 refine hq_p 28 (hstep_or _ _ rfl rfl rfl) rfl rfl rfl ?_
 refine sm ?_
 refine hq_g 30 7 29 false _ (fun hb=>hol_load ty_42 rfl (nb rfl) (nb rfl) rq) rfl rfl rfl rfl (pre1 rfl) rfl rfl rfl ?_
 refine stg 29 (fun hb=>hop_call0 (xs:=[_]) (fewM_h l) ⟨rfl,trivial⟩ ⟨fe,trivial⟩) rfl rfl rfl rfl rfl ?_
 refine stg 29 (fun hb=>hop_not rfl) rfl rfl rfl rfl rfl ?_
 refine hq_p 33 (hstep_or _ _ rfl rfl rfl) rfl rfl rfl ?_
 refine sm ?_
 refine gm 34 ?_
 refine stg 34 (fun hb=>hop_len_sl (T:=22) rfl (elOf_spec el_22).1 rfl) rfl rfl rfl rfl rfl ?_
 refine stg 34 (fun hb=>hop_gtr rfl rfl) rfl rfl rfl rfl rfl ?_
 refine gm 34 ?_
 refine hq_g3 39 16 38 34 false true _ _ (fun hb hb2=>hop_move rfl) rfl rfl rfl rfl rfl pre0 rfl rfl rfl ?_
 refine hq_g3 40 16 38 34 false true _ _ (fun hb hb2=>hop_move rfl) rfl rfl rfl rfl rfl pre0 rfl rfl rfl ?_
 refine hq_g3 41 16 38 34 false true _ _ (fun hb hb2=>hop_len_sl (T:=22) rfl (elOf_spec el_22).1 rfl) rfl rfl rfl rfl rfl pre0 rfl rfl rfl ?_
 refine hq_g3 42 16 38 34 false true _ _ (fun hb hb2=>hop_subi rfl rfl rfl (by simp at hb2;omega) (by simp at hb2;omega)) rfl rfl rfl rfl rfl pre0 rfl rfl rfl ?_
 refine sth (v:=intV 0) 38 (fun hb=>by simp at hb) rfl rfl rfl rfl rfl ?_
 refine hq_g3 44 16 38 34 false true _ _ (fun hb hb2=>hop_gtr rfl rfl) rfl rfl rfl rfl rfl pre0 rfl rfl rfl ?_
 refine hq_pg 45 (hstep_andg (gi:=12) (j:=34) _ _ rfl rfl rfl rfl) rfl rfl rfl rfl ?_
 refine hq_p 46 (hstep_and _ _ rfl rfl rfl) rfl rfl rfl ?_
 refine nu ?_
 refine h4 _ ?_
 refine wc (fun hc0=>?_) (fun hc0=>?_)
 ·have hr0:=hc0;(try simp only [hcs,Int.reduceToNat] at hc0)
  refine srg fun N h5=>sm<|sa<|sa<|sa<|sa<|snl h5<|hw_ret<|hq_then_ret ?_
  refine hq_ret4 rfl (rval_tmp rfl) (rval_tmp rfl) (rval_tmp rfl) (rval_tmp rfl) [] rfl pre0 ?_
  exact fz_t4 (.imm _) (.imm _) (.imm _) (.imm _)
 have hr0:=hc0;(try simp only [hcs,Int.reduceToNat] at hc0)
 exfalso;simp [hb] at hr0
theorem net_far0 (s:List UInt8) (l:List Mn) (hs:s.length≤9223372036854775807) (hp:ParseIs s ([],0,0)) (hf:¬ (s.length≤500∧fewM l=true)):NetP s l (t4 nilP nilS (intV 0) (boolV false)):=by
 refine hpure_of Tryz.func12 rfl kr _ _ _ rfl 63 rfl rfl (fun w F=>?_)
 refine srg fun N h1=>?_
 refine hm_1 3 (hop_box (id:=3) (sz:=1) rfl rfl rfl (nb rfl) (nb rfl)) rfl rfl pre0 rfl rfl (c':=1) rfl ?_
 refine sa<|sa<|sa<|sa<|snl h1<|srg fun N h2=>sm ?_
 refine hf_callR 18 (xs:=[_]) (pre:=[]) (refParse_h s ([],0,0) hs hp _) ⟨rfl,trivial⟩ pre0 rfl rfl (fun u c1 hu=>?_)
 (try dsimp only)
 refine sm ?_
 refine s0 hex ?_
 refine s0 hex ?_
 refine s0 hex ?_
 refine sa<|sa<|sa<|snl h2<|hw_seq fun Nh3 h3=>srg fun N h4=>sm ?_
 refine s0 (hop_neq rfl rfl) ?_
 refine sm ?_
 refine gm 24 ?_
 refine stg 24 (fun hb=>hop_len_strl (T:=9) rfl kr rfl) rfl rfl rfl rfl rfl ?_
 refine stg 24 (fun hb=>hop_gtr rfl rfl) rfl rfl rfl rfl rfl ?_
 refine hq_p 28 (hstep_or _ _ rfl rfl rfl) rfl rfl rfl ?_
 refine sm ?_
 refine hq_g 30 7 29 false _ (fun hb=>hol_load ty_42 rfl (nb rfl) (nb rfl) rq) rfl rfl rfl rfl (pre1 rfl) rfl rfl rfl ?_
 refine stg 29 (fun hb=>hop_call0 (xs:=[_]) (fewM_h l) ⟨rfl,trivial⟩ ⟨fe,trivial⟩) rfl rfl rfl rfl rfl ?_
 refine stg 29 (fun hb=>hop_not rfl) rfl rfl rfl rfl rfl ?_
 refine hq_p 33 (hstep_or _ _ rfl rfl rfl) rfl rfl rfl ?_
 refine sm ?_
 refine gm 34 ?_
 refine stg 34 (fun hb=>hop_len_sl (T:=22) rfl (elOf_spec el_22).1 rfl) rfl rfl rfl rfl rfl ?_
 refine stg 34 (fun hb=>hop_gtr rfl rfl) rfl rfl rfl rfl rfl ?_
 refine gm 34 ?_
 refine hq_g3 39 16 38 34 false true _ _ (fun hb hb2=>hop_move rfl) rfl rfl rfl rfl rfl pre0 rfl rfl rfl ?_
 refine hq_g3 40 16 38 34 false true _ _ (fun hb hb2=>hop_move rfl) rfl rfl rfl rfl rfl pre0 rfl rfl rfl ?_
 refine hq_g3 41 16 38 34 false true _ _ (fun hb hb2=>hop_len_sl (T:=22) rfl (elOf_spec el_22).1 rfl) rfl rfl rfl rfl rfl pre0 rfl rfl rfl ?_
 refine hq_g3 42 16 38 34 false true _ _ (fun hb hb2=>hop_sub rfl rfl) rfl rfl rfl rfl rfl pre0 rfl rfl rfl ?_
 refine sth (v:=intV 0) 38 (fun hb=>by simp at hb) rfl rfl rfl rfl rfl ?_
 refine hq_g3 44 16 38 34 false true _ _ (fun hb hb2=>hop_gtr rfl rfl) rfl rfl rfl rfl rfl pre0 rfl rfl rfl ?_
 refine hq_pg 45 (hstep_andg (gi:=12) (j:=34) _ _ rfl rfl rfl rfl) rfl rfl rfl rfl ?_
 refine hq_p 46 (hstep_and _ _ rfl rfl rfl) rfl rfl rfl ?_
 refine nu ?_
 refine h4 _ ?_
 refine wc (fun hc0=>?_) (fun hc0=>?_)
 ·have hr0:=hc0;(try simp only [hcs,Int.reduceToNat] at hc0)
  refine srg fun N h5=>sm<|sa<|sa<|sa<|sa<|snl h5<|hw_ret<|hq_then_ret ?_
  refine hq_ret4 rfl (rval_tmp rfl) (rval_tmp rfl) (rval_tmp rfl) (rval_tmp rfl) [] rfl pre0 ?_
  exact fz_t4 (.imm _) (.imm _) (.imm _) (.imm _)
 have hr0:=hc0;(try simp only [hcs,Int.reduceToNat] at hc0)
 exfalso;have h:=hr0;simp at h;exact hf ⟨by omega,by simpa using h.2⟩
theorem net_far (s:List UInt8) (l:List Mn) (hs:s.length≤9223372036854775807) (t:T) (hok:t.ok=true) (hB:PtB (T.flat 0 t)) (hp:ParseIs s (T.flat 0 t,0,0)) (hf:¬ (s.length≤500∧fewM l=true∧t.w≤60)):NetP s l (t4 nilP nilS (intV 0) (boolV false)):=by
 have hel:=hB.1
 have hat:AtP (T.flat 0 t) 0 (T.flat 0 t):=⟨[],[],by simp,rfl⟩
 have hsz:(T.flat 0 t).length=t.size:=T.flat_len 0 t
 have hps:=t.size_pos
 have hwm:wMin t.w≤60↔t.w≤60:=by unfold wMin;split <;> omega
 have hmn:=manyT_h (T.flat 0 t) hel t 0 hok hat
 generalize T.flat 0 t=e at hel hat hsz hmn hp hB
 have hel0:0 < e.length:=by omega
 refine hpure_of Tryz.func12 rfl kr _ _ _ rfl 63 rfl rfl (fun w F=>?_)
 refine srg fun N h1=>?_
 refine hm_1 3 (hop_box (id:=3) (sz:=1) rfl rfl rfl (nb rfl) (nb rfl)) rfl rfl pre0 rfl rfl (c':=1) rfl ?_
 refine sa<|sa<|sa<|sa<|snl h1<|srg fun N h2=>sm ?_
 refine hf_callR 18 (xs:=[_]) (pre:=[]) (refParse_h s (e,0,0) hs hp _) ⟨rfl,trivial⟩ pre0 rfl rfl (fun u c1 hu=>?_)
 (try dsimp only)
 refine sm ?_
 refine s0 hex ?_
 refine s0 hex ?_
 refine s0 hex ?_
 refine sa<|sa<|sa<|snl h2<|hw_seq fun Nh3 h3=>srg fun N h4=>sm ?_
 refine s0 (hop_neq rfl rfl) ?_
 refine sm ?_
 refine gm 24 ?_
 refine stg 24 (fun hb=>hop_len_strl (T:=9) rfl kr rfl) rfl rfl rfl rfl rfl ?_
 refine stg 24 (fun hb=>hop_gtr rfl rfl) rfl rfl rfl rfl rfl ?_
 refine hq_p 28 (hstep_or _ _ rfl rfl rfl) rfl rfl rfl ?_
 refine sm ?_
 refine hq_g 30 7 29 false _ (fun hb=>hol_load ty_42 rfl (nb rfl) (nb rfl) rq) rfl rfl rfl rfl (pre1 rfl) rfl rfl rfl ?_
 refine stg 29 (fun hb=>hop_call0 (xs:=[_]) (fewM_h l) ⟨rfl,trivial⟩ ⟨fe,trivial⟩) rfl rfl rfl rfl rfl ?_
 refine stg 29 (fun hb=>hop_not rfl) rfl rfl rfl rfl rfl ?_
 refine hq_p 33 (hstep_or _ _ rfl rfl rfl) rfl rfl rfl ?_
 refine sm ?_
 refine gm 34 ?_
 refine stg 34 (fun hb=>hop_len_sl (T:=22) rfl (elOf_spec el_22).1 rfl) rfl rfl rfl rfl rfl ?_
 refine stg 34 (fun hb=>hop_gtr rfl rfl) rfl rfl rfl rfl rfl ?_
 refine gm 34 ?_
 refine hq_g3 39 16 38 34 false true _ _ (fun hb hb2=>hop_move rfl) rfl rfl rfl rfl rfl pre0 rfl rfl rfl ?_
 refine hq_g3 40 16 38 34 false true _ _ (fun hb hb2=>hop_move rfl) rfl rfl rfl rfl rfl pre0 rfl rfl rfl ?_
 refine hq_g3 41 16 38 34 false true _ _ (fun hb hb2=>hop_len_sl (T:=22) rfl (elOf_spec el_22).1 rfl) rfl rfl rfl rfl rfl pre0 rfl rfl rfl ?_
 refine hq_g3 42 16 38 34 false true _ _ (fun hb hb2=>HOp.val (v':=intV ((0+t.size - 1:Nat):Int)) (hop_subi rfl rfl rfl (by simp at hb;omega) (by (simp at hb hb2;first | omega | (dsimp only;omega) | (simp <;> omega)))) (congrArg intV (by dsimp only;omega))) rfl rfl rfl rfl rfl pre0 rfl rfl rfl ?_
 refine hq_g3 43 16 38 34 false true _ _ (fun hb hb2=>hop_call0 (xs:=[_,_]) (hmn) ⟨rfl,⟨rfl,trivial⟩⟩ ⟨fe,⟨fe,trivial⟩⟩) rfl rfl rfl rfl rfl pre0 rfl rfl rfl ?_
 refine hq_g3 44 16 38 34 false true _ _ (fun hb hb2=>hop_gtr rfl rfl) rfl rfl rfl rfl rfl pre0 rfl rfl rfl ?_
 refine hq_pg 45 (hstep_andg (gi:=12) (j:=34) _ _ rfl rfl rfl rfl) rfl rfl rfl rfl ?_
 refine hq_p 46 (hstep_or _ _ rfl rfl rfl) rfl rfl rfl ?_
 refine nu ?_
 refine h4 _ ?_
 refine wc (fun hc0=>?_) (fun hc0=>?_)
 ·have hr0:=hc0;(try simp only [hcs,Int.reduceToNat] at hc0)
  refine srg fun N h5=>sm<|sa<|sa<|sa<|sa<|snl h5<|hw_ret<|hq_then_ret ?_
  refine hq_ret4 rfl (rval_tmp rfl) (rval_tmp rfl) (rval_tmp rfl) (rval_tmp rfl) [] rfl pre0 ?_
  exact fz_t4 (.imm _) (.imm _) (.imm _) (.imm _)
 have hr0:=hc0;(try simp only [hcs,Int.reduceToNat] at hc0)
 exfalso;have h:=hc0;have h60:=h.2;rw [decide_eq_true (by omega:(0:Int) < (e.length:Int)),Bool.true_and,decide_eq_false_iff_not] at h60;exact hf ⟨by omega,h.1.2,hwm.1 om⟩
theorem fz_cap {sh:List (Nat×HObj)} {g ty fl:Nat} {l:List Mn} {f:Nat→Nat→HV} (ho:(3,(⟨g,1,1,ty,fl,f⟩:HObj))∈sh) (hf:f 0 0=mnsV l):Fz sh (.fn (.func 42) 1 (fun i=>[HV.pt 3 g 0 0].getD i default)) (.fn (.func 42) 1 (fun i=>[HV.fp 1 (fun _=>mnsV l)].getD i default)) :=
 .fn _ _ _ _ (fun i hi=>by
  obtain rfl:i=0:=by omega
  exact .pt 3 _ 0 0 1 _ _ ho rfl (Nat.lt_succ_self 0) (Nat.le_refl _) (fun j hj=>by
   obtain rfl:j=0:=by omega
   show Fz sh (f 0 0) (mnsV l);rw [hf];exact Frz.fz))
theorem net_fine0 (s:List UInt8) (l:List Mn) (hs5:s.length≤500) (hF:fewM l=true) (hv:lexV s=.ok []):NetP s l (t4 (netP 0 [] (fun _=>Bag.zero) ⟨Bag.zero,Bag.zero,true⟩) (ptsV []) (intV 0) (boolV true)):=by
 have hB:=(fewM_B hF).1
 refine hpure_of Tryz.func12 rfl kr _ _ _ rfl 63 rfl rfl (fun w F=>?_)
 refine srg fun N h1=>?_
 refine hm_1 3 (hop_box (id:=3) (sz:=1) rfl rfl rfl (nb rfl) (nb rfl)) rfl rfl pre0 rfl rfl (c':=1) rfl ?_
 refine sa<|sa<|sa<|sa<|snl h1<|srg fun N h2=>sm ?_
 refine hf_callR 18 (xs:=[_]) (pre:=[]) (refParse_h s ([],0,0) om (.none hv) _) ⟨rfl,trivial⟩ pre0 rfl rfl (fun u c1 hu=>?_)
 (try dsimp only)
 refine sm ?_
 refine s0 hex ?_
 refine s0 hex ?_
 refine s0 hex ?_
 refine sa<|sa<|sa<|snl h2<|hw_seq fun Nh3 h3=>srg fun N h4=>sm ?_
 refine s0 (hop_neq rfl rfl) ?_
 refine sm ?_
 refine gm 24 ?_
 refine stg 24 (fun hb=>hop_len_strl (T:=9) rfl kr rfl) rfl rfl rfl rfl rfl ?_
 refine stg 24 (fun hb=>hop_gtr rfl rfl) rfl rfl rfl rfl rfl ?_
 refine hq_p 28 (hstep_or _ _ rfl rfl rfl) rfl rfl rfl ?_
 refine sm ?_
 refine hq_g 30 7 29 false _ (fun hb=>hol_load ty_42 rfl (nb rfl) (nb rfl) rq) rfl rfl rfl rfl (pre1 rfl) rfl rfl rfl ?_
 refine stg 29 (fun hb=>hop_call0 (xs:=[_]) (fewM_h l) ⟨rfl,trivial⟩ ⟨fe,trivial⟩) rfl rfl rfl rfl rfl ?_
 refine stg 29 (fun hb=>hop_not rfl) rfl rfl rfl rfl rfl ?_
 refine hq_p 33 (hstep_or _ _ rfl rfl rfl) rfl rfl rfl ?_
 refine sm ?_
 refine gm 34 ?_
 refine stg 34 (fun hb=>hop_len_sl (T:=22) rfl (elOf_spec el_22).1 rfl) rfl rfl rfl rfl rfl ?_
 refine stg 34 (fun hb=>hop_gtr rfl rfl) rfl rfl rfl rfl rfl ?_
 refine gm 34 ?_
 refine hq_g3 39 16 38 34 false true _ _ (fun hb hb2=>hop_move rfl) rfl rfl rfl rfl rfl pre0 rfl rfl rfl ?_
 refine hq_g3 40 16 38 34 false true _ _ (fun hb hb2=>hop_move rfl) rfl rfl rfl rfl rfl pre0 rfl rfl rfl ?_
 refine hq_g3 41 16 38 34 false true _ _ (fun hb hb2=>hop_len_sl (T:=22) rfl (elOf_spec el_22).1 rfl) rfl rfl rfl rfl rfl pre0 rfl rfl rfl ?_
 refine hq_g3 42 16 38 34 false true _ _ (fun hb hb2=>hop_sub rfl rfl) rfl rfl rfl rfl rfl pre0 rfl rfl rfl ?_
 refine sth (v:=intV 0) 38 (fun hb=>by simp at hb) rfl rfl rfl rfl rfl ?_
 refine hq_g3 44 16 38 34 false true _ _ (fun hb hb2=>hop_gtr rfl rfl) rfl rfl rfl rfl rfl pre0 rfl rfl rfl ?_
 refine hq_pg 45 (hstep_andg (gi:=12) (j:=34) _ _ rfl rfl rfl rfl) rfl rfl rfl rfl ?_
 refine hq_p 46 (hstep_and _ _ rfl rfl rfl) rfl rfl rfl ?_
 refine nu ?_
 refine h4 _ ?_
 refine wc (fun hc0=>?_) (fun hc0=>?_)
 ·have hr0:=hc0;(try simp only [hcs,Int.reduceToNat] at hc0)
  exfalso;have h:=hr0;simp [hF] at h;omega
 have hr0:=hc0;(try simp only [hcs,Int.reduceToNat] at hc0)
 refine hw_skip<|h3 _<|srg fun N h5=>sm ?_
 refine hf_callR 50 (xs:=[_]) (pre:=[]) (parse_h _ s om) ⟨rfl,trivial⟩ pre0 rfl rfl (fun r c2 hr=>?_)
 (try dsimp only)
 refine sm ?_
 refine s0 hex ?_
 refine s0 hex ?_
 refine s0 hex ?_
 refine sa<|sa<|sa<|snl h5<|hw_seq fun Nh6 h6=>?_
 obtain rfl:=parse_none hv hr
 refine hw_region<|sm ?_
 refine s0 (hop_makeFunc (hs:=[_]) ⟨rfl,trivial⟩) ?_
 refine (hsub_shr 56 [(3,_)] rfl (preC rfl pre0) rfl (fz_cap (.head _) rfl)).seq ?_
 refine s0 (hop_call0 (xs:=[_,_]) (new_h (meansOk l hB) [] ⟨Nat.zero_le _,fun i hi=>absurd hi (Nat.not_lt_zero _)⟩ _ (.nil rfl)) ⟨rfl,⟨rfl,trivial⟩⟩ ⟨(Fz.eq rfl),⟨(.fn _ _ _ _ (fun i hi=>by obtain rfl:i=0:=om;exact .fp _ _ (Nat.le_refl _) _ _ (fun j hj=>show Fz _ (mnsV l) (mnsV l) from Frz.fz))),trivial⟩⟩) ?_
 refine sm ?_
 refine s0 hex ?_
 refine s0 hex ?_
 refine sa<|sa<|snl h6<|srg fun N h7=>sm<|sm<|sm<|sa<|sa<|sa<|sa<|snl h7<|hw_ret ?_
 refine hq_ret4 rfl (rval_tmp rfl) (rval_tmp rfl) (rval_tmp rfl) (rval_tmp rfl) [] rfl pre0 ?_
 exact fz_t4 (.fp _ _ (Nat.le_refl _) _ _ (fun j hj=>Frz.fz)) (show Fz _ (ptsV []) (ptsV []) from Frz.fz) (.imm _) (.imm _)
theorem net_fine (s:List UInt8) (l:List Mn) (hs5:s.length≤500) (hF:fewM l=true) (lx:List Sg) (t:T) (hok:t.ok=true) (hv:lexV s=.ok lx) (hsg:Seg lx 3 0 lx.length t) (hPB:PtB (T.flat 0 t)) (hw:t.w≤60) (y:HV) (z:Int)
  (hn:NewIs (meansV l) (T.flat 0 t) (t2 y (intV z))) (hy:∀ sh,Fz sh y y):NetP s l (t4 y (ptsV (T.flat 0 t)) (intV z) (boolV true)):=by
 have hB:=(fewM_B hF).1
 have hel:=hPB.1
 have hat:AtP (T.flat 0 t) 0 (T.flat 0 t):=⟨[],[],by simp,rfl⟩
 have hsz:(T.flat 0 t).length=t.size:=T.flat_len 0 t
 have hps:=t.size_pos
 have hwm:wMin t.w≤60:=by unfold wMin;split <;> omega
 have hmn:=manyT_h (T.flat 0 t) hel t 0 hok hat
 have hpt:=fun r (h:ParseIs s r)=>parse_tree hv hsg h
 have hp:ParseIs s (T.flat 0 t,0,0):=.ok lx t hv hsg
 generalize T.flat 0 t=e at hel hat hsz hmn hp hpt hPB hn ⊢
 have hel0:0 < e.length:=by omega
 refine hpure_of Tryz.func12 rfl kr _ _ _ rfl 63 rfl rfl (fun w F=>?_)
 refine srg fun N h1=>?_
 refine hm_1 3 (hop_box (id:=3) (sz:=1) rfl rfl rfl (nb rfl) (nb rfl)) rfl rfl pre0 rfl rfl (c':=1) rfl ?_
 refine sa<|sa<|sa<|sa<|snl h1<|srg fun N h2=>sm ?_
 refine hf_callR 18 (xs:=[_]) (pre:=[]) (refParse_h s (e,0,0) om hp _) ⟨rfl,trivial⟩ pre0 rfl rfl (fun u c1 hu=>?_)
 (try dsimp only)
 refine sm ?_
 refine s0 hex ?_
 refine s0 hex ?_
 refine s0 hex ?_
 refine sa<|sa<|sa<|snl h2<|hw_seq fun Nh3 h3=>srg fun N h4=>sm ?_
 refine s0 (hop_neq rfl rfl) ?_
 refine sm ?_
 refine gm 24 ?_
 refine stg 24 (fun hb=>hop_len_strl (T:=9) rfl kr rfl) rfl rfl rfl rfl rfl ?_
 refine stg 24 (fun hb=>hop_gtr rfl rfl) rfl rfl rfl rfl rfl ?_
 refine hq_p 28 (hstep_or _ _ rfl rfl rfl) rfl rfl rfl ?_
 refine sm ?_
 refine hq_g 30 7 29 false _ (fun hb=>hol_load ty_42 rfl (nb rfl) (nb rfl) rq) rfl rfl rfl rfl (pre1 rfl) rfl rfl rfl ?_
 refine stg 29 (fun hb=>hop_call0 (xs:=[_]) (fewM_h l) ⟨rfl,trivial⟩ ⟨fe,trivial⟩) rfl rfl rfl rfl rfl ?_
 refine stg 29 (fun hb=>hop_not rfl) rfl rfl rfl rfl rfl ?_
 refine hq_p 33 (hstep_or _ _ rfl rfl rfl) rfl rfl rfl ?_
 refine sm ?_
 refine gm 34 ?_
 refine stg 34 (fun hb=>hop_len_sl (T:=22) rfl (elOf_spec el_22).1 rfl) rfl rfl rfl rfl rfl ?_
 refine stg 34 (fun hb=>hop_gtr rfl rfl) rfl rfl rfl rfl rfl ?_
 refine gm 34 ?_
 refine hq_g3 39 16 38 34 false true _ _ (fun hb hb2=>hop_move rfl) rfl rfl rfl rfl rfl pre0 rfl rfl rfl ?_
 refine hq_g3 40 16 38 34 false true _ _ (fun hb hb2=>hop_move rfl) rfl rfl rfl rfl rfl pre0 rfl rfl rfl ?_
 refine hq_g3 41 16 38 34 false true _ _ (fun hb hb2=>hop_len_sl (T:=22) rfl (elOf_spec el_22).1 rfl) rfl rfl rfl rfl rfl pre0 rfl rfl rfl ?_
 refine hq_g3 42 16 38 34 false true _ _ (fun hb hb2=>HOp.val (v':=intV ((0+t.size - 1:Nat):Int)) (hop_subi rfl rfl rfl (by simp at hb;omega) (by (simp at hb hb2;first | omega | (dsimp only;omega) | (simp <;> omega)))) (congrArg intV (by dsimp only;omega))) rfl rfl rfl rfl rfl pre0 rfl rfl rfl ?_
 refine hq_g3 43 16 38 34 false true _ _ (fun hb hb2=>hop_call0 (xs:=[_,_]) (hmn) ⟨rfl,⟨rfl,trivial⟩⟩ ⟨fe,⟨fe,trivial⟩⟩) rfl rfl rfl rfl rfl pre0 rfl rfl rfl ?_
 refine hq_g3 44 16 38 34 false true _ _ (fun hb hb2=>hop_gtr rfl rfl) rfl rfl rfl rfl rfl pre0 rfl rfl rfl ?_
 refine hq_pg 45 (hstep_andg (gi:=12) (j:=34) _ _ rfl rfl rfl rfl) rfl rfl rfl rfl ?_
 refine hq_p 46 (hstep_or _ _ rfl rfl rfl) rfl rfl rfl ?_
 refine nu ?_
 refine h4 _ ?_
 refine wc (fun hc0=>?_) (fun hc0=>?_)
 ·have hr0:=hc0;(try simp only [hcs,Int.reduceToNat] at hc0)
  exfalso;have h:=hr0;simp [hF] at h;omega
 have hr0:=hc0;(try simp only [hcs,Int.reduceToNat] at hc0)
 refine hw_skip<|h3 _<|srg fun N h5=>sm ?_
 refine hf_callR 50 (xs:=[_]) (pre:=[]) (parse_h _ s om) ⟨rfl,trivial⟩ pre0 rfl rfl (fun r c2 hr=>?_)
 (try dsimp only)
 refine sm ?_
 refine s0 hex ?_
 refine s0 hex ?_
 refine s0 hex ?_
 refine sa<|sa<|sa<|snl h5<|hw_seq fun Nh6 h6=>?_
 obtain rfl:=hpt _ hr
 refine hw_region<|sm ?_
 refine s0 (hop_makeFunc (hs:=[_]) ⟨rfl,trivial⟩) ?_
 refine (hsub_shr 56 [(3,_)] rfl (preC rfl pre0) rfl (fz_cap (.head _) rfl)).seq ?_
 refine s0 (hop_call0 (xs:=[_,_]) (new_h (meansOk l hB) e hPB _ hn) ⟨rfl,⟨rfl,trivial⟩⟩ ⟨(Fz.eq rfl),⟨(.fn _ _ _ _ (fun i hi=>by obtain rfl:i=0:=om;exact .fp _ _ (Nat.le_refl _) _ _ (fun j hj=>show Fz _ (mnsV l) (mnsV l) from Frz.fz))),trivial⟩⟩) ?_
 refine sm ?_
 refine s0 hex ?_
 refine s0 hex ?_
 refine sa<|sa<|snl h6<|srg fun N h7=>sm<|sm<|sm<|sa<|sa<|sa<|sa<|snl h7<|hw_ret ?_
 refine hq_ret4 rfl (rval_tmp rfl) (rval_tmp rfl) (rval_tmp rfl) (rval_tmp rfl) [] rfl pre0 ?_
 exact fz_t4 (hy _) (show Fz _ (ptsV e) (ptsV e) from Frz.fz) (.imm _) (.imm _)
theorem net_cases (s:List UInt8) (l:List Mn) (hs:s.length≤9223372036854775807):(∃ x:Int,NetP s l (t4 nilP nilS (intV x) (boolV false)))∨(∃ e,NetP s l (t4 nilP (ptsV e) (intV 6) (boolV true))∧noneE l e=true∧e.length≤100000∧MnB l)∨∃ w on β p e,NetOk s l w on β p e:=by
  obtain ⟨r,hp⟩:=parse_ex s
  have hpr:=parse_right hp
  cases hp with
  | err e hv=>exact .inl ⟨_,net_err s l hs _ _ (.err e hv) (lexV_err hv)⟩
  | odd lx q hv hne hq hC=>exact .inl ⟨_,net_err s l hs _ _ (.odd lx q hv hne hq hC) (by decide)⟩
  | end_ lx hv hne hC=>exact .inl ⟨_,net_err s l hs _ _ (.end_ lx hv hne hC) (by decide)⟩
  | none hv =>
    by_cases h:s.length≤500∧fewM l=true
    · have hB:=(fewM_B h.2).1
      exact .inr (.inr ⟨0,[],fun _=>Bag.zero,Pc.nil,[],⟨net_fine0 s l h.1 h.2 hv,refNil_h l,rfl,Nat.zero_le _,rfl,fun i=>Bag.zero_ok,fun i=>Bag.zero_ok,Pc.nil_ok,Nat.zero_le _,hB,⟨Nat.zero_le _,fun i hi=>absurd hi (Nat.not_lt_zero _)⟩,.inl ⟨rfl,rfl,rfl,fun _=>rfl,rfl⟩⟩⟩)
    · exact .inl ⟨_,net_far0 s l hs (.none hv) h⟩
  | ok lx t hv hsg =>
    have hok:=seg_ok (lexV_W hv) hsg
    have hPB:=hpr.1
    by_cases h:s.length≤500∧fewM l=true∧t.w≤60
    · have hB:=(fewM_B h.2.1).1
      have hR:rightV (T.flat 0 t)=true:=right_of_ok hok
      have hmo:=means_ok l
      cases hn:noneE l (T.flat 0 t) with
      | true=>exact .inr (.inl ⟨_,net_fine s l h.1 h.2.1 lx t hok hv hsg hPB h.2.2 _ _ (.none hR (by rw [noneV_E];exact hn)) (fun sh=>.imm _),hn,hPB.1,hB⟩)
      | false =>
        have hly:=lay_ok hmo t 0 (by omega)
        refine .inr (.inr ⟨0+t.w,_,_,_,_,⟨net_fine s l h.1 h.2.1 lx t hok hv hsg hPB h.2.2 (treeNet (meansV l) t) 0 (.fine t hok rfl (by rw [noneV_E];exact hn) (by omega)) (fun sh=>.fp _ _ (Nat.le_refl _) _ _ (fun j hj=>Frz.fz)),refNet_h l hB t hok hPB.1 (by omega),hn,by omega,?_,?_,?_,hly.pc,hPB.1,hB,hPB,.inr ⟨t,hok,rfl,rfl,rfl,rfl,rfl⟩⟩⟩)
        · rw [Nat.zero_add];exact hly.len
        · intro i
          show ((lay (meansV l) t 0).on.getD i Bag.zero).ok
          by_cases hi:i < (lay (meansV l) t 0).on.length
          · rw [List.getD_eq_getElem?_getD,List.getElem?_eq_getElem hi];exact hly.on _ (List.getElem_mem hi)
          · rw [List.getD_eq_getElem?_getD,List.getElem?_eq_none (by omega)];exact Bag.zero_ok
        · exact links_ok hly.lk (fun _=>Bag.zero_ok)
    · exact .inl ⟨_,net_far s l hs t hok hPB (.ok lx t hv hsg) h⟩
theorem list_few (x:Bag):x.list.length≤1000000:=by have:=list_le x;omega
def famP (b:Nat) (ob:Nat→HObj) (P:Nat→Bool):Nat→List (Nat×HObj)
 | 0=>[]
 | n+1=>if P n=true then (b+n,ob n)::famP b ob P n else famP b ob P n
theorem hget_famP (b:Nat) (ob:Nat→HObj) (P:Nat→Bool):∀ n id,hget (famP b ob P n) id=if b≤id∧id < b+n∧P (id - b)=true then some (ob (id - b)) else none
  | 0,id=>by rw [if_neg (by omega)];rfl
  | n + 1, id => by
    have ih:=hget_famP b ob P n id
    simp only [famP]
    by_cases hP:P n=true
    · rw [if_pos hP,hget_cons]
      by_cases e:id=b+n
      · subst e
        rw [hset_same,if_pos ⟨by omega,by omega,by rw [Nat.add_sub_cancel_left];exact hP⟩,Nat.add_sub_cancel_left]
      · rw [hset_ne _ _ e,ih]
        by_cases h:b≤id∧id < b+n∧P (id - b)=true
        · rw [if_pos h,if_pos ⟨h.1,by omega,h.2.2⟩]
        · rw [if_neg h,if_neg (fun h'=>h ⟨h'.1,by omega,h'.2.2⟩)]
    · rw [if_neg hP,ih]
      by_cases h:b≤id∧id < b+n∧P (id - b)=true
      · rw [if_pos h,if_pos ⟨h.1,by omega,h.2.2⟩]
      · rw [if_neg h,if_neg (fun h'=>by
          by_cases e:id=b+n
          · subst e;exact hP (by simpa using h'.2.2)
          · exact h ⟨h'.1,by omega,h'.2.2⟩)]
theorem hget_app (A B:List (Nat×HObj)) (id:Nat):hget (A++B) id=match hget A id with | some o=>some o | none=>hget B id:=by
  induction A with
  | nil=>rfl
  | cons q A ih =>
    obtain ⟨k,o⟩:=q
    rw [List.cons_append,hget_cons,hget_cons]
    by_cases e:id=k
    · subst e;rw [hset_same,hset_same]
    · rw [hset_ne _ _ e,hset_ne _ _ e];exact ih
def under (b k:Nat) (L:List (Nat×HObj)):Bool:=L.all fun p=>Nat.blt p.1 b&&!Nat.beq p.1 k
theorem hget_under {b k:Nat} {L:List (Nat×HObj)} (h:under b k L=true):∀ id,(b≤id∨id=k)→hget L id=none:=by
  intro id hid
  induction L with
  | nil=>rfl
  | cons q L ih =>
    obtain ⟨j,o⟩:=q
    simp only [under,List.all_cons,Bool.and_eq_true] at h
    have h1:j < b:=by simpa [Nat.blt_eq] using h.1.1
    have h2:j≠k:=by intro e;subst e;simp at h
    rw [hget_cons,hset_ne _ _ (by omega)]
    exact ih (by simpa [under] using h.2)
section
variable {C:Ctx} {n clk:Nat} {tm:List (Nat×TV)} {hp:List (Nat×HObj)}
theorem hsub_renc (id0 id id':Nat) (hp':List (Nat×HObj)) {g lo m on sz fl g0 n0 m0 fl0:Nat} {oty ty0:TypeId} {f f0:Nat→Nat→HV} (f':Nat→Nat→HV) (ho:hget hp id=some ⟨g,on,sz,oty,fl,f⟩) (h0:hget hp' id0=some ⟨g0,n0,m0,ty0,fl0,f0⟩) (hne:id'≠id0) (hid:id'≠id)
    (hf:∀ i j,i < n0→j < m0→f' i j=f0 i j∨(f0 i j=.os id g lo m∧f' i j=.os id' clk lo m)) (hfl:fl0≤n0) (hh:∀ k o,hget hp' k=some o→k≠id∧k≠id'∧hget hp k=some o) :
    HSub C ⟨n,tm,hp,clk⟩ ⟨n,tm,(id0,⟨g0,n0,m0,ty0,fl0,f'⟩)::(id',⟨clk,on,sz,oty,fl,f⟩)::hp',clk+1⟩:=by
  intro a w ⟨E,e0,r,hG,hsz,hdf,htm⟩
  have hg:¬ E.G clk:=fun h=>absurd (hG _ h) (Nat.lt_irrefl _)
  obtain ⟨l,hl,at_⟩:=r.obj id _ ho
  have e:Ext w E w (E.place id' ⟨clk,l.A,l.cap,l.sz⟩):=⟨Nat.le_refl _,fun a ha=>⟨ha,rfl⟩,fun _ hg=>.inl hg,fun k l' hl' hG'=>by
    by_cases hk:k=id'
    · subst hk;rw [Env.place_L] at hl';injection hl' with hl';subst hl';exact absurd hG' hg
    · rwa [Env.place_Lne _ _ hk] at hl',fun _ h=>h⟩
  have r1:R C.K C.w0 C.E0.F (E.place id' ⟨clk,l.A,l.cap,l.sz⟩) (hset (hget hp') id' ⟨clk,on,sz,oty,fl,f⟩) w:=by
    refine ⟨r.os,r.tape,r.output,r.size,r.keep,r.frz,r.fnew,r.klib,r.lib,r.bks,fun k o hko=>?_,fun k k' o o' l1 l2 b ho1 ho2 hl1 hl2 hb1 hb2=>?_⟩
    · by_cases hk:k=id'
      · subst hk
        rw [hset_same] at hko;injection hko with hko;subst hko
        refine ⟨_,Env.place_L _ _ _,rfl,.inr rfl,at_.sz,at_.pos,?_⟩
        rcases at_.at_ with h0 | ⟨b,cs,g1,g2,g3,g4,g5,g6,⟨vs,g8⟩,g9⟩ | ⟨b,ob,g1,g2,h3,g4⟩
        rotate_right
        · exact .inr (.inr ⟨b,ob,g1,g2,by cases h3;exact .iter ..,g4⟩)
        · exact .inl h0
        · exact .inr (.inl ⟨b,cs,g1,g2,g3,g4,g5,g6,⟨vs,fun i j hi hj=>⟨(g8 i j hi hj).1,(g8 i j hi hj).2.1,(g8 i j hi hj).2.2.ext e⟩⟩,g9⟩)
      · rw [hset_ne _ _ hk] at hko
        obtain ⟨h1,h2,h3⟩:=hh k o hko
        obtain ⟨l',hl',a'⟩:=r.obj k o h3
        exact ⟨l',by rw [Env.place_Lne _ _ h2];exact hl',a'.ext e (fun _ _=>rfl) (fun _ _ _ hF=>hF)⟩
    · have key:∀ k o l1,hset (hget hp') id' ⟨clk,on,sz,oty,fl,f⟩ k=some o→(E.place id' ⟨clk,l.A,l.cap,l.sz⟩).L k=some l1→∃ k2 o2 l2,hget hp k2=some o2∧E.L k2=some l2∧l2.A=l1.A∧((k=id'∧k2=id)∨(k≠id'∧k2=k∧k≠id)):=by
        intro k o l1 hko hkl
        by_cases hk:k=id'
        · subst hk
          rw [Env.place_L] at hkl;injection hkl with hkl;subst hkl
          exact ⟨id,_,l,ho,hl,rfl,.inl ⟨rfl,rfl⟩⟩
        · rw [hset_ne _ _ hk] at hko
          rw [Env.place_Lne _ _ hk] at hkl
          obtain ⟨h1,h2,h3⟩:=hh k o hko
          exact ⟨k,o,l1,h3,hkl,rfl,.inr ⟨hk,rfl,h1⟩⟩
      obtain ⟨p1,q1,m1,a1,a2,a3,a4⟩:=key k o l1 ho1 hl1
      obtain ⟨p2,q2,m2,c1,c2,c3,c4⟩:=key k' o' l2 ho2 hl2
      have:=r.inj p1 p2 q1 q2 m1 m2 b a1 c1 a2 c2 (a3.trans hb1) (c3.trans hb2)
      rcases a4 with ⟨e1,e2⟩ | ⟨e1,e2,e3⟩ <;> rcases c4 with ⟨f1,f2⟩ | ⟨f1,f2,f3⟩
      · rw [e1,f1]
      · exact absurd (by rw [←f2,←this,e2]) f3
      · exact absurd (by rw [←e2,this,f2]) e3
      · rw [←e2,←f2,this]
  have r2:=r1.tell id0 (g:=g0) (n:=n0) (sz:=m0) (ty:=ty0) (fl:=fl0) (f':=f') (by rw [hset_ne _ _ (Ne.symm hne)];exact h0) (fun l2 b cs hl2 hA hB i j u hi hj hu hr=>by
    rcases hf i j hi hj with h1 | ⟨h1,h2⟩
    · rw [h1];exact hr
    · rw [h2]
      rw [h1] at hr
      have hL:(E.place id' ⟨clk,l.A,l.cap,l.sz⟩).L id=some l:=by rw [Env.place_Lne _ _ (Ne.symm hid)];exact hl
      cases hr with
      | os A _ c _ _ _ hgg hcc hm hA h0 =>
        refine .os A m c id' clk lo (.inr rfl) hcc hm (fun hp=>?_) (fun l2 hl2 _ hlo=>?_)
        · obtain ⟨b,k,h1,h2⟩:=hA hp
          refine ⟨b,k,h1,fun l2 hl2 _=>?_⟩
          rw [Env.place_L] at hl2;injection hl2 with hl2;subst hl2
          exact h2 l hL at_.g
        · rw [Env.place_L] at hl2;injection hl2 with hl2;subst hl2
          exact h0 l hL at_.g hlo) hfl
  refine ⟨_,e0.trans e,by simp only [hget_cons];exact r2,fun g' hg'=>?_,hsz,hdf.ext e,fun t x hx=>(htm t x hx).ext e⟩
  rcases hg' with hg' | hg'
  · exact Nat.lt_succ_of_lt (hG g' hg')
  · rw [hg'];exact Nat.lt_succ_self _
end
@[reducible] def famF (b:Nat) (ob:Nat→HObj):Nat→Nat→HV:=fun k _=>.os (b+k) (ob k).g 0 (ob k).n
@[reducible] def famB (b:Nat) (ob:Nat→HObj) (i id c m:Nat):Nat→Nat→HV:=fun k _=>if k=i then .os id c 0 m else .os (b+k) (ob k).g 0 (ob k).n
def fup (ob:Nat→HObj) (i:Nat) (o:HObj):Nat→HObj:=fun k=>if k=i then o else ob k
section
variable {C:Ctx} {n clk:Nat} {tm:List (Nat×TV)}
theorem hsub_hp {hp hp':List (Nat×HObj)} (hh:HpSub hp hp'):HSub C ⟨n,tm,hp,clk⟩ ⟨n,tm,hp',clk⟩:=by
 intro a w ⟨E,e0,r,hG,hsz,hdf,htm⟩
 refine ⟨E,e0,{ r with obj:=fun id o ho=>?_,inj:=fun id id' o o' l l' b ho ho' hl hl' hb hb'=>?_ },hG,hsz,hdf,htm⟩
 ·obtain ⟨o1,ho1,hs⟩:=hh id o ho
  obtain ⟨l,hl,a1⟩:=r.obj id o1 ho1
  exact ⟨l,hl,hs.at_ a1⟩
 ·obtain ⟨o1,ho1,_⟩:=hh id o ho
  obtain ⟨o2,ho2,_⟩:=hh id' o' ho'
  exact r.inj id id' o1 o2 l l' b ho1 ho2 hl hl' hb hb'
theorem hsub_borrow (o id b i N go:Nat) (ty:TypeId) (L:List (Nat×HObj)) (ob:Nat→HObj) (hi:i < N) (hob:o < b) (hid:id < b) (hne:id≠o) (hL:under b id L=true) (hfl:(ob i).fl≤(ob i).n) :
    HSub C ⟨n,tm,(o,⟨go,N,1,ty,0,famF b ob⟩)::(L++famP b ob (fun _=>true) N),clk⟩ ⟨n,tm,(o,⟨go,N,1,ty,0,famB b ob i id clk (ob i).n⟩)::(id,{ ob i with g:=clk })::(L++famP b ob (fun k=>k != i) N),clk+1⟩:=by
  have hrow:hget ((o,(⟨go,N,1,ty,0,famF b ob⟩:HObj))::(L++famP b ob (fun _=>true) N)) (b+i)=some (ob i):=by
    rw [hget_cons,hset_ne _ _ (by omega),hget_app,hget_under hL _ (.inl (by omega))]
    simp only
    rw [hget_famP,if_pos ⟨by omega,by omega,rfl⟩,Nat.add_sub_cancel_left]
  have key:=hsub_renc (C:=C) (n:=n) (clk:=clk) (tm:=tm) o (b+i) id ((o,⟨go,N,1,ty,0,famF b ob⟩)::(L++famP b ob (fun k=>k != i) N)) (lo:=0) (m:=(ob i).n) (famB b ob i id clk (ob i).n) hrow
    (by rw [hget_cons,hset_same]) hne (by omega) (fun k j hk hj=>by
      by_cases e:k=i
      · subst e;right;exact ⟨rfl,by show (if k=k then _ else _)=_;rw [if_pos rfl]⟩
      · left;show (if k=i then _ else _)=_;rw [if_neg e]) (Nat.zero_le _) (fun k o' hk=>by
      rw [hget_cons] at hk
      by_cases e:k=o
      · subst e;rw [hset_same] at hk;exact ⟨by omega,Ne.symm hne,by rw [hget_cons,hset_same];exact hk⟩
      · rw [hset_ne _ _ e,hget_app] at hk
        rw [hget_cons,hset_ne _ _ e,hget_app]
        cases h1:hget L k with
        | some x =>
          rw [h1] at hk
          refine ⟨fun e2=>?_,fun e2=>?_,by simpa using hk⟩
          · rw [e2,hget_under hL _ (.inl (by omega))] at h1;cases h1
          · rw [e2,hget_under hL _ (.inr rfl)] at h1;cases h1
        | none =>
          rw [h1] at hk
          simp only at hk ⊢
          rw [hget_famP] at hk ⊢
          by_cases h2:b≤k∧k < b+N∧((k - b) != i)=true
          · rw [if_pos h2] at hk
            have h3:k - b≠i:=by simpa using h2.2.2
            refine ⟨by omega,by omega,?_⟩
            rw [if_pos ⟨h2.1,h2.2.1,rfl⟩];exact hk
          · rw [if_neg h2] at hk;cases hk)
  refine HSub.trans key (hsub_hp (fun k o' hk=>⟨o',?_,OSub.refl _⟩))
  rw [hget_cons] at hk ⊢
  by_cases e:k=o
  · subst e;rw [hset_same] at hk ⊢;exact hk
  · rw [hset_ne _ _ e,hget_cons] at hk ⊢
    by_cases e2:k=id
    · subst e2;rw [hset_same] at hk ⊢;exact hk
    · rw [hset_ne _ _ e2] at hk ⊢
      rw [hget_cons,hset_ne _ _ e];exact hk
theorem hsub_back (o id b i N go c m sz fl:Nat) (ty ty2:TypeId) (f:Nat→Nat→HV) (L:List (Nat×HObj)) (ob:Nat→HObj) (hi:i < N) (hob:o < b) (hid:id < b) (hne:id≠o) (hL:under b id L=true) :
    HSub C ⟨n,tm,(o,⟨go,N,1,ty,0,famB b ob i id c m⟩)::(id,⟨c,m,sz,ty2,fl,f⟩)::(L++famP b ob (fun k=>k != i) N),clk⟩ ⟨n,tm,(o,⟨go,N,1,ty,0,famF b (fup ob i ⟨clk,m,sz,ty2,fl,f⟩)⟩)::(L++famP b (fup ob i ⟨clk,m,sz,ty2,fl,f⟩) (fun _=>true) N),clk+1⟩:=by
  have hLo:∀ k x,hget L k=some x→k < b∧k≠id:=fun k x h=>by
    refine ⟨Nat.lt_of_not_le fun h'=>?_,fun h'=>?_⟩
    · rw [hget_under hL _ (.inl h')] at h;cases h
    · rw [hget_under hL _ (.inr h')] at h;cases h
  have key:=hsub_renc (C:=C) (n:=n) (clk:=clk) (tm:=tm) (hp:=(o,⟨go,N,1,ty,0,famB b ob i id c m⟩)::(id,⟨c,m,sz,ty2,fl,f⟩)::(L++famP b ob (fun k=>k != i) N)) o id (b+i) ((o,⟨go,N,1,ty,0,famB b ob i id c m⟩)::(L++famP b ob (fun k=>k != i) N)) (lo:=0) (m:=m) (famF b (fup ob i ⟨clk,m,sz,ty2,fl,f⟩))
    (by rw [hget_cons,hset_ne _ _ hne,hget_cons,hset_same]) (by rw [hget_cons,hset_same]) (by omega) (by omega) (fun k j hk hj=>by
      by_cases e:k=i
      · subst e;right
        refine ⟨by show (if k=k then _ else _)=_;rw [if_pos rfl],?_⟩
        show HV.os (b+k) (fup ob k _ k).g 0 (fup ob k _ k).n=_
        unfold fup;rw [if_pos rfl]
      · left
        show HV.os (b+k) (fup ob i _ k).g 0 (fup ob i _ k).n=if k=i then _ else _
        unfold fup;rw [if_neg e,if_neg e]) (Nat.zero_le _) (fun k o' hk=>by
      rw [hget_cons] at hk
      by_cases e:k=o
      · subst e;rw [hset_same] at hk;exact ⟨Ne.symm hne,by omega,by rw [hget_cons,hset_same];exact hk⟩
      · rw [hset_ne _ _ e,hget_app] at hk
        cases h1:hget L k with
        | some x =>
          have:=hLo k x h1
          rw [h1] at hk
          refine ⟨this.2,by omega,?_⟩
          rw [hget_cons,hset_ne _ _ e,hget_cons,hset_ne _ _ this.2,hget_app,h1];exact hk
        | none =>
          rw [h1] at hk
          simp only at hk
          rw [hget_famP] at hk
          by_cases h2:b≤k∧k < b+N∧((k - b) != i)=true
          · have h3:k - b≠i:=by simpa using h2.2.2
            refine ⟨by omega,by omega,?_⟩
            rw [hget_cons,hset_ne _ _ e,hget_cons,hset_ne _ _ (by omega),hget_app,h1]
            simp only
            rw [hget_famP];exact hk
          · rw [if_neg h2] at hk;cases hk)
  refine HSub.trans key (hsub_hp (fun k o' hk=>⟨o',?_,OSub.refl _⟩))
  rw [hget_cons] at hk ⊢
  by_cases e:k=o
  · subst e;rw [hset_same] at hk ⊢;exact hk
  · rw [hset_ne _ _ e] at hk ⊢
    rw [hget_cons]
    rw [hget_app] at hk
    cases h1:hget L k with
    | some x =>
      have:=hLo k x h1
      rw [h1] at hk
      rw [hset_ne _ _ (by omega),hget_cons,hset_ne _ _ e,hget_app,h1];exact hk
    | none =>
      rw [h1] at hk
      simp only at hk
      rw [hget_famP] at hk
      by_cases h2:b≤k∧k < b+N∧true=true
      · rw [if_pos h2] at hk
        by_cases e2:k=b+i
        · subst e2
          rw [hset_same]
          rw [Nat.add_sub_cancel_left] at hk
          unfold fup at hk;rw [if_pos rfl] at hk;exact hk
        · rw [hset_ne _ _ e2,hget_cons,hset_ne _ _ e,hget_app,h1]
          simp only
          rw [hget_famP,if_pos ⟨h2.1,h2.2.1,by simp;omega⟩]
          unfold fup at hk;rw [if_neg (by omega)] at hk;exact hk
      · rw [if_neg h2] at hk;cases hk
end
theorem HpSub.skip {x:Nat×HObj} {hp:List (Nat×HObj)} {b:Nat} {ob:Nat→HObj} {P:Nat→Bool} {N:Nat} (h:HpSub hp (famP b ob P N)) (hx:Nat.blt x.1 b=true):HpSub (x::hp) (famP b ob P N):=fun k o' hk=>by
 obtain ⟨k0,o0⟩:=x
 obtain ⟨o1,h1,h2⟩:=h k o' hk
 have hb:b≤k:=by
  rw [hget_famP] at hk
  by_cases h3:b≤k∧k < b+N∧P (k - b)=true
  ·exact h3.1
  ·rw [if_neg h3] at hk;cases hk
 have:k0 < b:=by simpa [Nat.blt_eq] using hx
 exact ⟨o1,by rw [hget_cons,hset_ne _ _ (by omega)];exact h1,h2⟩
theorem hpSub_nil {b:Nat} {ob:Nat→HObj} {P:Nat→Bool} {N:Nat}:HpSub (famP b ob P N++[]) (famP b ob P N):=by rw [List.append_nil];exact HpSub.refl _
theorem hpSub_swap {o b N:Nat} {x:HObj} {ob:Nat→HObj} {L:List (Nat×HObj)} (hL:under b o L=true):HpSub ((o,x)::(famP b ob (fun _=>true) N++L)) ((o,x)::(L++famP b ob (fun _=>true) N)):=fun k o' hk=>by
 refine ⟨o',?_,OSub.refl _⟩
 rw [hget_cons] at hk ⊢
 by_cases e:k=o
 ·subst e;rw [hset_same] at hk ⊢;exact hk
 ·rw [hset_ne _ _ e,hget_app] at hk ⊢
  rw [hget_famP] at hk ⊢
  by_cases h3:b≤k∧k < b+N∧true=true
  ·rw [if_pos h3] at hk ⊢
   rw [hget_under hL _ (.inl h3.1)] at hk;exact hk
  ·rw [if_neg h3] at hk ⊢
   cases h1:hget L k with
   | some y=>rw [h1] at hk;exact hk
   | none=>rw [h1] at hk;simp at hk
theorem fam_mem {b:Nat} {ob:Nat→HObj}:∀ {N i:Nat},i < N→(b+i,ob i)∈famP b ob (fun _=>true) N
  | N + 1, i, h => by
    simp only [famP,if_true]
    by_cases e:i=N
    · subst e;exact List.mem_cons_self ..
    · exact List.mem_cons_of_mem _ (fam_mem (by omega))
theorem fam_get {b N:Nat} {ob:Nat→HObj} {hp:List (Nat×HObj)} (h:∀ k,k < N→hget hp (b+k)=some (ob k)):∀ n,n≤N→∀ p∈famP b ob (fun _=>true) n,hget hp p.1=some p.2
  | 0,_,p,hp'=>by simp [famP] at hp'
  | n + 1, hn, p, hp' => by
    simp only [famP,if_true] at hp'
    rcases List.mem_cons.1 hp' with rfl | hp'
    · exact h n (by omega)
    · exact fam_get h n (by omega) p hp'
theorem fam_keys {b:Nat} {ob:Nat→HObj}:∀ {n:Nat} {k:Nat},k∈(famP b ob (fun _=>true) n).map (·.1)→b≤k∧k < b+n
  | 0,k,h=>by simp [famP] at h
  | n + 1, k, h => by
    simp only [famP,if_true,List.map_cons] at h
    rcases List.mem_cons.1 h with rfl | h
    · exact ⟨by omega,by omega⟩
    · have:=fam_keys h;omega
theorem fam_dup {b:Nat} {ob:Nat→HObj}:∀ n,dupfree ((famP b ob (fun _=>true) n).map (·.1))=true
  | 0=>rfl
  | n + 1 => by
    simp only [famP,if_true,List.map_cons,dupfree,Bool.and_eq_true,Bool.not_eq_true']
    refine ⟨?_,fam_dup n⟩
    rw [List.any_eq_false]
    intro k hk
    have:=fam_keys hk
    simp;omega
theorem fam_dupc {o b:Nat} {x:HObj} {ob:Nat→HObj} (ho:o < b) (n:Nat):dupfree (((o,x)::famP b ob (fun _=>true) n).map (·.1))=true:=by
 simp only [List.map_cons,dupfree,Bool.and_eq_true,Bool.not_eq_true']
 refine ⟨?_,fam_dup n⟩
 rw [List.any_eq_false]
 intro k hk
 have:=fam_keys hk
 simp;omega
theorem fam_getc {o b N:Nat} {x:HObj} {ob:Nat→HObj} {hp:List (Nat×HObj)} (h0:hget hp o=some x) (h:∀ k,k < N→hget hp (b+k)=some (ob k)):∀ p∈(o,x)::famP b ob (fun _=>true) N,hget hp p.1=some p.2:=fun p hp'=>by
 rcases List.mem_cons.1 hp' with rfl | hp'
 ·exact h0
 ·exact fam_get h N (Nat.le_refl _) p hp'
@[reducible] def boF (f:Nat→Bool):Nat→Nat→HV:=fun j _=>boolV (f j)
@[reducible] def relH (n:Nat) (f:Nat→Nat→Bool):HV:=.sl 1 n (fun i _=>.sl 1 n (boF (f i)))
instance frz_rel (n:Nat) (f:Nat→Nat→Bool):Frz (relH n f):=⟨.sl _ _ _ _ fun _ _ _ _=>.sl _ _ _ _ fun _ _ _ _=>.imm _⟩
@[reducible] def boO (g n:Nat) (f:Nat→Bool):HObj:=⟨g,n,1,4,0,boF f⟩
@[reducible] def reO (go n:Nat) (F:Nat→Nat→HV):HObj:=⟨go,n,1,97,0,F⟩
def RowsB (n m:Nat) (f:Nat→Nat→Bool) (ob:Nat→HObj):Prop:=∀ k,k < m→∃ g h,ob k=boO g n h∧∀ j,j < n→h j=f k j
@[reducible] def relL (go n:Nat) (ob:Nat→HObj):List (Nat×HObj):=(9306,reO go n (famF 10000 ob))::famP 10000 ob (fun _=>true) n
theorem hget_skip {x:Nat×HObj} {hp:List (Nat×HObj)} {b k:Nat} (hx:Nat.blt x.1 b=true):hget (x::hp) (b+k)=hget hp (b+k):=by
 obtain ⟨k0,o0⟩:=x
 have:k0 < b:=by simpa [Nat.blt_eq] using hx
 rw [hget_cons,hset_ne _ _ (by omega)]
theorem hget_fam_at {b N k:Nat} {ob:Nat→HObj} (h:k < N):hget (famP b ob (fun _=>true) N) (b+k)=some (ob k):=by
 rw [hget_famP,if_pos ⟨by omega,by omega,rfl⟩,Nat.add_sub_cancel_left]
theorem hsub_grow {C:Ctx} {n clk:Nat} {tm:List (Nat×TV)} {hp:List (Nat×HObj)} (o id b i N go c m sz fl:Nat) (ty ty2:TypeId) (f f0:Nat→Nat→HV) (z:HV) (ob:Nat→HObj) (ho:hget hp o=some ⟨go,N,1,ty,0,f0⟩) (hid:∃ o1,hget hp id=some o1∧OSub o1 ⟨c,m,sz,ty2,fl,f⟩)
  (hrow:∀ k,k < i→hget hp (b+k)=some (ob k)) (hf0:∀ k,k < N→f0 k 0=if k < i then .os (b+k) (ob k).g 0 (ob k).n else if k=i then .os id c 0 m else z) (hob:o < b) (hidb:id < b) (hne:id≠o) :
  HSub C ⟨n,tm,hp,clk⟩ ⟨n,tm,(o,⟨go,N,1,ty,0,fun k _=>if k < i+1 then .os (b+k) (fup ob i ⟨clk,m,sz,ty2,fl,f⟩ k).g 0 (fup ob i ⟨clk,m,sz,ty2,fl,f⟩ k).n else z⟩)::famP b (fup ob i ⟨clk,m,sz,ty2,fl,f⟩) (fun _=>true) (i+1),clk+1⟩:=by
 have hA:HpSub hp ((o,(⟨go,N,1,ty,0,f0⟩:HObj))::(id,⟨c,m,sz,ty2,fl,f⟩)::famP b ob (fun _=>true) i):=fun k o' hk=>by
  rw [hget_cons] at hk
  by_cases e:k=o
  ·subst e;rw [hset_same] at hk;injection hk with hk;subst hk;exact ⟨_,ho,OSub.refl _⟩
  ·rw [hset_ne _ _ e,hget_cons] at hk
   by_cases e2:k=id
   ·subst e2;rw [hset_same] at hk;injection hk with hk;subst hk;exact hid
   ·refine ⟨o',?_,OSub.refl _⟩
    rw [hset_ne _ _ e2,hget_famP] at hk
    by_cases h3:b≤k∧k < b+i∧true=true
    ·rw [if_pos h3] at hk
     have:=hrow (k - b) (by omega)
     rw [show b+(k - b)=k by omega] at this
     rw [this];exact hk
    ·rw [if_neg h3] at hk;cases hk
 refine HSub.trans (hsub_hp hA) (HSub.trans (hsub_renc (C:=C) (n:=n) (clk:=clk) (tm:=tm) (hp:=(o,⟨go,N,1,ty,0,f0⟩)::(id,⟨c,m,sz,ty2,fl,f⟩)::famP b ob (fun _=>true) i) o id (b+i) ((o,⟨go,N,1,ty,0,f0⟩)::famP b ob (fun _=>true) i) (lo:=0) (m:=m) (fun k _=>if k < i+1 then .os (b+k) (fup ob i ⟨clk,m,sz,ty2,fl,f⟩ k).g 0 (fup ob i ⟨clk,m,sz,ty2,fl,f⟩ k).n else z)
  (by rw [hget_cons,hset_ne _ _ hne,hget_cons,hset_same]) (by rw [hget_cons,hset_same]) (by omega) (by omega) (fun k j hk hj=>?_) (Nat.zero_le _) (fun k o' hk=>?_)) (hsub_hp (fun k o' hk=>⟨o',?_,OSub.refl _⟩)))
 ·obtain rfl:j=0:=by omega
  rw [hf0 k hk]
  by_cases e:k=i
  ·subst e;right
   rw [if_neg (by omega),if_pos rfl,if_pos (by omega)]
   exact ⟨rfl,by unfold fup;rw [if_pos rfl]⟩
  ·left
   by_cases h2:k < i
   ·rw [if_pos h2,if_pos (by omega)];unfold fup;rw [if_neg e]
   ·rw [if_neg h2,if_neg e,if_neg (by omega)]
 ·rw [hget_cons] at hk
  by_cases e:k=o
  ·subst e;rw [hset_same] at hk;exact ⟨Ne.symm hne,by omega,by rw [hget_cons,hset_same];exact hk⟩
  ·rw [hset_ne _ _ e,hget_famP] at hk
   by_cases h3:b≤k∧k < b+i∧true=true
   ·refine ⟨by omega,by omega,?_⟩
    rw [hget_cons,hset_ne _ _ e,hget_cons,hset_ne _ _ (by omega),hget_famP];exact hk
   ·rw [if_neg h3] at hk;cases hk
 ·rw [hget_cons] at hk ⊢
  by_cases e:k=o
  ·subst e;rw [hset_same] at hk ⊢;exact hk
  ·rw [hset_ne _ _ e] at hk ⊢
   rw [hget_cons,hget_famP] at *
   by_cases h3:b≤k∧k < b+(i+1)∧true=true
   ·rw [if_pos h3] at hk
    by_cases e2:k=b+i
    ·subst e2
     rw [hset_same]
     rw [Nat.add_sub_cancel_left] at hk
     unfold fup at hk;rw [if_pos rfl] at hk;exact hk
    ·rw [hset_ne _ _ e2,hget_cons,hset_ne _ _ e,hget_famP,if_pos ⟨h3.1,by omega,rfl⟩]
     unfold fup at hk;rw [if_neg (by omega)] at hk;exact hk
   ·rw [if_neg h3] at hk;cases hk
theorem kept_fam {kp0 sh hp:List (Nat×HObj)} {b:Nat} {ob:Nat→HObj}:∀ {N:Nat},(∀ k,k < N→∃ o,hget hp (b+k)=some o∧OKz kp0 sh o (ob k))→Kept kp0 sh hp (famP b ob (fun _=>true) N)
  | 0,_=>trivial
  | N + 1, h => by
    simp only [famP,if_true]
    exact ⟨h N (by omega),kept_fam (fun k hk=>h k (by omega))⟩
theorem boO_okz {kp sh:List (Nat×HObj)} {g n:Nat} {f:Nat→Bool}:OKz kp sh (boO g n f) (boO g n f):=.of fun i j hi hj=>.fz _ _ (.imm _)
theorem okz_fam {sh L:List (Nat×HObj)} {go n b:Nat} {F:Nat→Nat→HV} {ob:Nat→HObj} (h:∀ k,k < n→F k 0=.os (b+k) (ob k).g 0 (ob k).n) (hf:∀ k,k < n→hget L (b+k)=some (ob k)):OKz L sh (reO go n F) (reO go n (famF b ob)):=.of fun k j hk hj=>by
 obtain rfl:j=0:=by omega
 rw [h k hk];exact .os _ _ _ _ _ (hf k hk) rfl
theorem boO_okz2 {kp sh:List (Nat×HObj)} {n k:Nat} {f:Nat→Bool} {ob:Nat→HObj} (h:∃ g h,ob k=boO g n h∧∀ j,j < n→h j=f j):OKz kp sh (ob k) (ob k):=by obtain ⟨g,h,hg,_⟩:=h;rw [hg];exact boO_okz
theorem upd1_at {F:Nat→Nat→HV} {q k:Nat} {x:Nat→HV}:upd F q 0 1 x k 0=if k=q then x 0 else F k 0:=by
 unfold upd inb
 have h0:(Nat.ble 0 0&&Nat.blt 0 (0+1))=true:=by simp
 by_cases e:k=q
 ·subst e
  have:Nat.beq k k=true:=by simp
  rw [h0,this,if_pos rfl];rfl
 ·have:Nat.beq k q=false:=(by rw [Bool.eq_false_iff];intro h;exact e (Nat.eq_of_beq_eq_true h))
  rw [this,if_neg e];rfl
theorem rnone_h (n:Nat) (hn:n≤1000) (c:Nat):HFun Tryz.prog 50 c [intV (n:Int)] [] (RetP (fun (y:Nat×(Nat→HObj)) _=>RowsB n n (fun _ _=>false) y.2) (fun y=>.os 9306 y.1 0 n) (fun y=>relL y.1 n y.2)):=by
 let k0:=c
 refine hfun_of Tryz.func50 rfl kr _ _ _ _ rfl 18 rfl rfl (fun X ok hX=>?_)
 refine srg fun N h1=>sa<|snl h1<|srg fun N h2=>sm ?_
 refine hm_1 6 (hop_make (id:=9306) (n:=_) (m:=_) ei_94 (nb rfl) (nb rfl) rfl rfl rfl rfl om om om rfl) rfl rfl pre0 rfl rfl (c':=c+1) rfl ?_
 refine sa<|snl h2<|hw_seq fun Nh3 h3=>srg fun N h4=>sa<|snl h4<|hw_block ?_
 refine hw_loopc (α:=Nat×(Nat→HObj)) (fun x c=>⟨18,[(0,.v (intV (n:Int))),(3,.v (.os 9306 k0 0 n)),(4,.v (intV (x.1:Int)))],((9306,reO k0 n (fun k _=>if k < x.1 then .os (10000+k) (x.2 k).g 0 (x.2 k).n else nilS))::famP 10000 x.2 (fun _=>true) x.1),c⟩) (fun x=>x.1≤n∧RowsB n x.1 (fun _ _=>false) x.2) (fun x=>n - x.1) ((0,fun _=>boO 0 0 (fun _=>false))) (by exact ⟨Nat.zero_le _,fun k hk=>absurd hk (Nat.not_lt_zero _)⟩) (hsub_of rfl (Nat.le_refl _) tsa (HpSub.cons rfl (OSub.of fun k j hk hj=>by obtain rfl:j=0:=om;show Sb _ (if k < 0 then _ else nilS);rw [if_neg (Nat.not_lt_zero _)];exact .refl _) HpSub.nil)) (fun x c hx NhL5 hL5=>?_)
 revert hx hL5;obtain ⟨i,ob⟩:=x;intro hx hL5;dsimp only at hx hL5 ⊢
 obtain ⟨hi,hrw⟩:=hx
 refine hw_seq fun Nh6 h6=>srg fun N h7=>sm<|sm ?_
 refine s0 hli ?_
 refine snl h7 ?_
 refine wc (fun hc0=>?_) (fun hc0=>?_)
 ·have hr0:=hc0;(try simp only [hcs,Int.reduceToNat] at hc0)
  refine hw_skip<|h6 _<|hw_seq fun Nh8 h8=>hw_block<|hw_region<|sm<|sm<|sm ?_
  refine hm_1 15 (hop_make (id:=9315) (n:=_) (m:=_) ei_97 (nb rfl) (nb rfl) rfl rfl rfl rfl om om om rfl) rfl rfl pre0 rfl rfl (c':=c+1) rfl ?_
  refine st1 (hol_ia_os el_94 rfl rfl om om) rfl rfl rfl ?_
  refine hm_s1 (hol_store ty_97 rfl rfl rfl rfl om (nb rfl) (nb rfl)) rfl rfl (pre1 rfl) (c':=c+2) rfl ?_
  refine hseq_nil<|hq_block<|h8 _<|hw_region<|sm ?_
  refine s0 hai ?_
  refine sa<|hseq_nil ?_
  exact hL5 ((i+1,fup ob i (boO (c+2) n (fun _=>false)))) _ _ (by (try dsimp only);exact ⟨by omega,fun k hk=>by unfold fup;split;exact ⟨_,_,rfl,fun _ _=>rfl⟩;exact hrw k om⟩) (by (try dsimp only);omega) (HSub.trans (hsub_grow 9306 9315 10000 i n k0 c n 1 0 _ _ (boF (fun _=>false)) _ nilS ob rfl ⟨_,rfl,OSub.of (fun k j hk hj=>by obtain rfl:j=0:=om;exact .refl _)⟩ (fun k hk=>by rw [hget_skip rfl,hget_skip rfl,hget_skip rfl];exact hget_fam_at hk) (fun k hk=>by rw [upd1_at];by_cases e:k=i;(rw [if_pos (by simpa using e),if_neg om,if_pos e];rfl);(rw [if_neg (by simpa using e),if_neg e])) (by decide) (by decide) (by decide)) (hsub_of rfl (Nat.le_refl _) tsa (HpSub.refl _)))
 have hr0:=hc0;(try simp only [hcs,Int.reduceToNat] at hc0)
 obtain rfl:i=n:=om
 refine hw_exit ?_
 refine hq_then_exit<|hq_then_exit<|hq_block_here<|h3 _<|srg fun N h9=>sm<|sa<|snl h9<|hw_ret ?_
 exact hf_retR1 ok hX RetS.one rfl (rval_tmp rfl) [] rfl pre0 (k0,ob) hrw (by rfl) (by simp) (.os _ _ _ _ _ rfl rfl) ⟨⟨_,rfl,okz_fam (fun k hk=>if_pos hk) (fun k hk=>by rw [hget_skip rfl];exact hget_fam_at hk)⟩,kept_fam (fun k hk=>⟨ob k,by rw [hget_skip rfl];exact hget_fam_at hk,boO_okz2 (hrw k hk)⟩)⟩
end Go.Proofs.YtldjnmljnlhaaaaGreatDoor
