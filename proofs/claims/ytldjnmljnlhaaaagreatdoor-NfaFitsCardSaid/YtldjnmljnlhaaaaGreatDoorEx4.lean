/-
  Bags, in the reader's words.
-/
import Derived.Test.YtldjnmljnlhaaaaGreatDoorHbu
import Derived.Test.YtldjnmljnlhaaaaGreatDoorNfaV
namespace Go.Proofs.YtldjnmljnlhaaaaGreatDoor
set_option linter.unusedSimpArgs false
set_option linter.unusedVariables false
set_option maxRecDepth 100000
set_option maxHeartbeats 1000000
open Go.RowKit
@[reducible] def u64V (n:Nat):HV:=.imm (.int .u64 (n:Int))
@[reducible] def bagF (x:Bag):Nat→HV:=fun j=>u64V (x.word j)
@[reducible] def bagH (x:Bag):HV:=.agg 4 (bagF x)
@[reducible] def iListF (l:List Int):Nat→Nat→HV:=fun i _=>intV (l.getD i 0)
@[reducible] def iListV (l:List Int):HV:=.sl 1 l.length (iListF l)
theorem fz_intB {sh:List (Nat×HObj)} {a b:Int} (h:a=b):Fz sh (intV a) (intV b):=by subst h;exact .imm _
theorem bag_inv {w:World} {E:Env} {v:Value} {x:Bag} (h:Rep w E v (bagH x)):v=.agg x.cells.toArray:=by
  cases h with
  | agg cs _ _ vs hn hv hr =>
    congr 1
    apply Array.ext_getElem?
    intro i
    by_cases hi:i < 4
    · rw [(hv i hi).1]
      have:=(hr i hi).imm_inv
      rw [this]
      match i,hi with
      | 0,_=>rfl
      | 1,_=>rfl
      | 2,_=>rfl
      | 3,_=>rfl
    · rw [Array.getElem?_eq_none (by omega),Array.getElem?_eq_none (by simp [Bag.cells];omega)]
theorem rep_bag {w:World} {E:Env} (x:Bag):Rep w E (.agg x.cells.toArray) (bagH x):=.agg _ 4 _ (fun j=>.int .u64 (x.word j)) (by simp [Bag.cells]) (fun i hi=>by
 match i,hi with
 | 0,_=>exact ⟨rfl,rfl⟩
 | 1,_=>exact ⟨rfl,rfl⟩
 | 2,_=>exact ⟨rfl,rfl⟩
 | 3,_=>exact ⟨rfl,rfl⟩) (fun i hi=>.imm _)
theorem pure_bag {w w':World} {F:Addr→Prop} {x:Bag} (hF:∀ a,F a→a.spot=none∧(w.cell? a).isSome=true) (hb:Below w.heap.size w w'):PurePost w F (bagH x) (.returned (.agg x.cells.toArray)) w' :=
 ⟨hb,_,F,rfl,fun _ h=>h,fun _ h=>.inl h,fun a ha=>⟨(hF a ha).1,by rw [World.cell?_of_block (hb.block _ (lt_of_cell (hF a ha).2))];exact (hF a ha).2⟩,rep_bag x⟩
instance frz_bag (x:Bag):Frz (bagH x):=⟨.agg _ _ _ fun _ _=>.imm _⟩
instance frz_bagp (x:Bag):Frz (.fp 4 (bagF x)):=⟨.fp _ _ (Nat.le_refl _) _ _ fun _ _=>.imm _⟩
instance frz_fny (f:Fn) (c:Nat→HV):Frz (.fn f 0 c):=⟨.fn _ 0 _ _ (fun i hi=>absurd hi (Nat.not_lt_zero _))⟩
instance frz_iList (l:List Int):Frz (iListV l):=⟨.sl _ _ _ _ fun _ _ _ _=>.imm _⟩
theorem with_h (x:Bag) (hx:x.ok) (n:Int):HPure Tryz.prog 19 [bagH x,intV n] (bagH (x.with_ n)):=by
 refine ⟨⟨_,_,Tryz.func19,rfl,by kernel_rfl⟩,fun w F vs hF hr hw=>?_⟩
 obtain ⟨u,v,rfl,hu,hv⟩:=rep2 hr
 rw [bag_inv hu,hv.imm_inv]
 refine (With_any x hx n w).mono ?_
 rintro e w' ⟨rfl,hb⟩
 exact pure_bag hF hb
theorem has_h (x:Bag) (hx:x.ok) (n:Int):HPure Tryz.prog 17 [bagH x,intV n] (boolV (decide (0≤n∧n < 256)&&x.has n.toNat)):=by
 refine ⟨⟨_,_,Tryz.func17,rfl,by kernel_rfl⟩,fun w F vs hF hr hw=>?_⟩
 obtain ⟨u,v,rfl,hu,hv⟩:=rep2 hr
 rw [bag_inv hu,hv.imm_inv]
 refine (Has_any x hx n w).mono ?_
 rintro e w' ⟨rfl,hb⟩
 exact pure_imm hF hb
theorem or_h (x y:Bag) (hx:x.ok) (hy:y.ok):HPure Tryz.prog 20 [bagH x,bagH y] (bagH (bun x y)):=by
 refine ⟨⟨_,_,Tryz.func20,rfl,by kernel_rfl⟩,fun w F vs hF hr hw=>?_⟩
 obtain ⟨u,v,rfl,hu,hv⟩:=rep2 hr
 rw [bag_inv hu,bag_inv hv]
 refine (Or_any x y hx hy w).mono ?_
 rintro e w' ⟨rfl,hb⟩
 exact pure_bag hF hb
theorem and_h (x y:Bag) (hx:x.ok) (hy:y.ok):HPure Tryz.prog 22 [bagH x,bagH y] (bagH (x.mix andF y 4)):=by
 refine ⟨⟨_,_,Tryz.func22,rfl,by kernel_rfl⟩,fun w F vs hF hr hw=>?_⟩
 obtain ⟨u,v,rfl,hu,hv⟩:=rep2 hr
 rw [bag_inv hu,bag_inv hv]
 refine (And_any x y hx hy w).mono ?_
 rintro e w' ⟨rfl,hb⟩
 exact pure_bag hF hb
theorem of_h (l:List Int) (hl:l.length≤1000000):HPure Tryz.prog 8 [iListV l] (bagH (bagOf l)):=by
 refine ⟨⟨_,_,Tryz.func8,rfl,by kernel_rfl⟩,fun w F vs hF hr hw=>?_⟩
 obtain ⟨v,rfl,hv⟩:=rep1 hr
 obtain ⟨A,c,rfl,hc,hm,hs⟩:=sl_of 1 intC (fun _=>rfl) (fun x _=>intV x) (fun x j hj=>by obtain rfl:j=0:=(by omega);rfl) 0 l hv
 refine (Of_any A l.length c w.heap.size l w rfl hs (Nat.le_refl _) hl).mono ?_
 rintro e w' ⟨rfl,hb⟩
 exact pure_bag hF hb
theorem lib_tab {w:World} (hw:LibW w):TabAt w∧0 < w.heap.size:=by
 have h2:=hw.dbt (by unfold hasLib;kernel_rfl)
 have hn:Tryz.prog.globalNamed "math/bits.deBruijn64tab" = some 0:=by kernel_rfl
 refine ⟨fun j hj=>?_,hw.ok _ ⟨_,by simp [libNames],hn⟩⟩
 have:=h2.cell hn j (by simpa [Lib.deBruijn64tab] using hj)
 rw [this]
 simp only [List.getD_eq_getElem?_getD,List.getElem?_map]
 cases Lib.deBruijn64tab[j]? <;> rfl
theorem tz_h (y:Nat) (hy:y < 18446744073709551616) (h0:y≠0):HPure Tryz.prog 75 [u64V y] (intV (Lib.ctz 64 y)):=by
 refine ⟨⟨_,_,Tryz.func75,rfl,by kernel_rfl⟩,fun w F vs hF hr hw=>?_⟩
 obtain ⟨v,rfl,hv⟩:=rep1 hr
 rw [hv.imm_inv]
 refine (TrailingZeros_any y hy h0 w (lib_tab hw).1).mono ?_
 rintro e w' ⟨rfl,rfl⟩
 exact pure_imm hF (Below.refl _ _)
theorem all_h (x:Bag):HPure Tryz.prog 49 [bagH x] (.fn (.func 74) 1 (fun i=>[HV.fp 4 (bagF x)].getD i default)):=by
 refine hpure_of Tryz.func49 rfl kr _ _ _ rfl 4 rfl rfl (fun w F=>?_)
 refine srg fun N h1=>?_
 refine hm_1 1 (hop_box (id:=1) (sz:=4) rfl rfl rfl (nb rfl) (nb rfl)) rfl rfl pre0 rfl rfl (c':=1) rfl ?_
 refine sa<|snl h1<|srg fun N h2=>?_
 refine s0 (hop_makeFunc (hs:=[_]) ⟨rfl,trivial⟩) ?_
 refine sa<|snl h2<|hw_ret ?_
 refine hq_ret1 rfl (rval_tmp rfl) [(1,_)] rfl (preC rfl pre0) ?_
 exact .fn _ _ _ _ (fun i hi=>by obtain rfl:i=0:=(by simpa using hi);exact .pt 1 0 0 0 4 _ (bagF x) (List.mem_cons_self ..) rfl (Nat.lt_succ_self 0) (Nat.le_refl 4) (fun j hj=>by show Fz _ (bagF x (0+j)) (bagF x j);rw [Nat.zero_add];exact .imm _))
def arr1 (P:Program) (T:TypeId):Option Nat:=match P.underlying T with
  | some (.array len e) => match tyOf P e with
    | some (false,1)=>some len
    | _=>none
  | _=>none
section
variable {P:Program} {ov:Nat→Option HV} {g:Nat} {d:Option Tmp} {ty T:TypeId} {pos:String} {af:Array Edge} {x y:Operand} {gd:Option (Nat×Bool)}
theorem hop_ix_arr {n:Nat} {f:Nat→HV} {k:IntKind} {i:Int} (hT:arr1 P T=some n) (h1:ovl ov x=some (.agg n f)) (h2:ovl ov y=some (.imm (.int k i))) (hi0:0≤i) (hi:i < (n:Int)) :
    HOp P ⟨d,.index T x y,ty,pos,af,gd⟩ ov g [] (f i.toNat) [] :=
  hop_pure fun w E ρ hr=>by
    have e1:=hr x _ (by simp [Op.operands]) h1
    have e2:=Rep.imm_inv (hr y _ (by simp [Op.operands]) h2)
    unfold arr1 at hT
    split at hT
    · rename_i len' e hu
      split at hT
      · rename_i ht
        injection hT with hT
        subst hT
        generalize hv:ρ x=v at e1
        cases e1 with
        | agg cs _ _ vs hn hc hrep =>
          refine ⟨vs i.toNat,?_,hrep _ (by omega)⟩
          have hcs:=(hc i.toNat (by omega)).1
          simp [execOp,hv,e2,Instr.index,asIntOf,run_underlying hu,hi0,hi,part,(tyOf_spec ht).1,(tyOf_spec ht).2.1,hcs]
      · cases hT
    · cases hT
end
theorem part_len (x:Bag) (k:Nat) (hk:k < 4):(x.part (k+1)).length=(x.part k).length+(ones (x.word k)).length:=by
 show (x.part k++nums k (ones (x.word k))).length=_
 rw [List.length_append];simp [nums]
theorem part_pre (x:Bag):∀ k m,m≤k→∃ r,x.part k=x.part m++r
  | 0,m,h=>⟨[],by obtain rfl:m=0:=(by omega);simp⟩
  | k + 1, m, h => by
    by_cases e:m=k+1
    · subst e;exact ⟨[],by simp⟩
    · obtain ⟨r,hr⟩:=part_pre x k m (by omega)
      exact ⟨r++nums k (ones (x.word k)),by show x.part k++_=_;rw [hr,List.append_assoc]⟩
theorem list_at (x:Bag) (k m:Nat) (hk:k < 4) (hm:m < (ones (x.word k)).length):(x.part k).length+m < x.list.length∧x.list.getD ((x.part k).length+m) 0=((64 * k+(ones (x.word k)).getD m 0:Nat):Int):=by
 obtain ⟨r,hr⟩:=part_pre x 4 (k+1) (by omega)
 have e:x.list=x.part k++(nums k (ones (x.word k))++r):=by
  unfold Bag.list
  rw [hr]
  show x.part k++nums k (ones (x.word k))++r=_
  rw [List.append_assoc]
 have hl:(nums k (ones (x.word k))).length=(ones (x.word k)).length:=by simp [nums]
 refine ⟨by rw [e,List.length_append,List.length_append,hl];omega,?_⟩
 rw [e,List.getD_eq_getElem?_getD,List.getElem?_append_right (by omega),Nat.add_sub_cancel_left,List.getElem?_append_left (by omega)]
 simp only [nums,List.getElem?_map,List.getD_eq_getElem?_getD]
 rw [List.getElem?_eq_getElem hm]
 simp
theorem ones_next {w y m:Nat} (hy:y≠0) (hlt:y < 18446744073709551616) (hd:(ones w).drop m=ones y):m < (ones w).length∧(ones w).getD m 0=Lib.ctz 64 y∧(ones w).drop (m+1)=ones (y &&& (y - 1)):=by
 have h:=(ones_step y hy hlt).2
 rw [h] at hd
 have hm:m < (ones w).length:=by
  rcases Nat.lt_or_ge m (ones w).length with h1 | h1
  ·exact h1
  ·rw [List.drop_eq_nil_of_le h1] at hd;cases hd
 rw [List.drop_eq_getElem_cons hm] at hd
 injection hd with h1 h2
 exact ⟨hm,by rw [List.getD_eq_getElem?_getD,List.getElem?_eq_getElem hm];exact h1,h2⟩
theorem ones_end {w m:Nat} (hd:(ones w).drop m=ones 0) (hm:m≤(ones w).length):m=(ones w).length:=by
 rw [ones_zero] at hd
 have:=congrArg List.length hd
 rw [List.length_drop] at this
 simp at this
 omega
theorem u64_and {y:Nat} (hy:y < 18446744073709551616) (h0:y≠0):(.imm (.int .u64 (bits .and .u64 (y:Int) ((y:Int) - 1))):HV)=u64V (y &&& (y - 1)):=by
 have e:((y:Int) - 1)=((y - 1:Nat):Int):=by omega
 rw [e,and64 (y:Int) y (y - 1) rfl hy (by omega)]
theorem all_it (bg:Bag) (hbg:bg.ok):HIter Tryz.prog 74 [.fp 4 (bagF bg)] bg.list.length (fun i=>[intV (bg.list.getD i 0)]):=by
 refine hiter_of Tryz.func74 rfl kr _ _ _ _ rfl 26 rfl rfl (fun X hXN hXy O W F hg=>?_)
 refine hw_seqC (fun Nh1 h1=>?_)
 refine hw_region ?_
 refine s0 (hop_fa_fp fd_33_0 rfl (nb rfl)) ?_
 refine s0 (HOp.val (v':=bagH bg) (hop_load_fp ty_31 rfl (nb rfl) (fun h=>(by cases h))) ((by show HV.agg 4 _=HV.agg 4 _;congr 1;funext j;simp only [Nat.zero_add]))) ?_
 refine sm<|hseq_nil ?_
 refine h1 _ _ rfl ?_
 refine hw_block ?_
 refine hw_loopI (α:=Nat) (fun x=>[(0,.v (.fn (.yield X.l) 0 fun _=>default)),(1,.v (.fp 4 (bagF bg))),(6,.v (bagH bg)),(7,.v (intV x))]) (fun x=>x≤4) (fun x=>(bg.part x).length) (fun x=>4 - x) (0) om (by first | exact hg | simpa using hg) (hsub_of rfl (Nat.le_refl _) tsa HpSub.nil) (fun k O W F c hx hg NhL2 hL2=>?_)
 (try dsimp only at hx hg hL2 ⊢)
 refine hw_seqC (fun Nh3 h3=>?_)
 refine hw_region ?_
 refine s0 hli ?_
 refine hseq_nil ?_
 refine h3 _ _ rfl ?_
 refine hw_seqC (fun Nh4 h4=>?_)
 refine wc (fun hc0=>?_) (fun hc0=>?_)
 ·have hr0:=hc0;(try simp only [hcs,Int.reduceToNat] at hc0)
  have hk4:k < 4:=om;have hwl:=bg.word_lt hbg k
  refine hw_skip ?_
  refine h4 _ _ rfl ?_
  refine hw_seqC (fun Nh5 h5=>?_)
  refine hw_block ?_
  refine hw_seqC (fun Nh6 h6=>?_)
  refine hw_region<|sm ?_
  refine s0 (HOp.val (v':=u64V (bg.word k)) (hop_ix_arr kr rfl rfl om om) (rfl)) ?_
  refine sa<|sa<|hseq_nil ?_
  refine h6 _ _ rfl ?_
  refine hw_block ?_
  refine hw_loopI (α:=Nat×Nat) (fun x=>[(0,.v (.fn (.yield X.l) 0 fun _=>default)),(1,.v (.fp 4 (bagF bg))),(3,.v (intV k)),(4,.v (u64V x.1)),(6,.v (bagH bg)),(7,.v (intV k))]) (fun x=>x.1 < 18446744073709551616∧(ones (bg.word k)).drop x.2=ones x.1∧x.2≤(ones (bg.word k)).length) (fun x=>(bg.part k).length+x.2) (fun x=>x.1) ((bg.word k,0)) (by exact ⟨hwl,rfl,Nat.zero_le _⟩) (by first | exact hg | simpa using hg) (hsub_of rfl (Nat.le_refl _) tsa HpSub.nil) (fun x O W F c hx hg NhL7 hL7=>?_)
  revert hx hg hL7;obtain ⟨y,m⟩:=x;intro hx hg hL7;dsimp only at hx hg hL7 ⊢
  obtain ⟨hy,hd,hm⟩:=hx
  refine hw_seqC (fun Nh8 h8=>?_)
  refine hw_seqC (fun Nh9 h9=>?_)
  refine hw_region<|sm ?_
  refine s0 (hop_neq rfl rfl) ?_
  refine hseq_nil ?_
  refine h9 _ _ rfl ?_
  refine wc (fun hc1=>?_) (fun hc1=>?_)
  ·have hr1:=hc1;(try simp only [hcs,Int.reduceToNat] at hc1)
   have hy0:y≠0:=om;have hon:=ones_next hy0 hy hd;have hla:=list_at bg k m hk4 hon.1;have hcz:=(ones_step y hy0 hy).1
   refine hw_skip ?_
   refine h8 _ _ rfl ?_
   refine hw_seqC (fun Nh10 h10=>?_)
   refine hw_block ?_
   refine hw_seqC (fun Nh11 h11=>?_)
   refine hw_region<|sm<|sm ?_
   refine s0 (hop_muli rfl rfl rfl om om) ?_
   refine sm ?_
   refine s0 (hop_call0 (xs:=[_]) (tz_h y hy hy0) ⟨rfl,trivial⟩ ⟨fe,trivial⟩) ?_
   refine s0 hai ?_
   refine hq_yield hg (by rw [hXN];exact hla.1) (xs:=[_]) [(0,.v (.fn (.yield X.l) 0 fun _=>default)),(1,.v (.fp 4 (bagF bg))),(3,.v (intV k)),(4,.v (u64V y)),(6,.v (bagH bg)),(7,.v (intV k))] rfl ⟨rfl,trivial⟩ (by rw [hXy];exact ⟨fz_intB (by rw [hla.2,hon.2.1];omega),trivial⟩) (TmFz.cons rfl fe (TmFz.cons rfl fe (TmFz.cons rfl fe (TmFz.cons rfl fe (TmFz.cons rfl fe (TmFz.cons rfl fe TmFz.nil)))))) rfl (fun O W F hg=>?_) (fun W F hfr hjx=>?_)
   ·skip
    refine s0 (hop_not rfl) ?_
    refine hseq_nil ?_
    refine h11 _ _ rfl ?_
    refine wc (fun hc2=>?_) (fun hc2=>?_)
    ·have hr2:=hc2;(try simp only [hcs,Int.reduceToNat] at hc2)
     exfalso;simp at hr2
    have hr2:=hc2;(try simp only [hcs,Int.reduceToNat] at hc2)
    refine hw_skip<|hq_block ?_
    refine h10 _ _ rfl ?_
    refine hw_region<|sm<|sm ?_
    refine s0 (hop_subk wok_u64 rfl rfl rfl om om) ?_
    refine s0 (HOp.val (v':=u64V (y &&& (y - 1))) (hop_band rfl rfl) (u64_and hy hy0)) ?_
    refine sa<|hseq_nil ?_
    exact hL7 ((y &&& (y - 1),m+1)) O W F _ _ (by (try dsimp only);exact ⟨by have:=and_pred_lt y hy0;omega,hon.2.2,hon.1⟩) (by (try dsimp only);exact and_pred_lt y hy0) (by (try dsimp only);first | exact hg | simpa using hg) (hsub_of rfl (Nat.le_refl _) tsa HpSub.nil)
   ·skip
    refine s0 (hop_not rfl) ?_
    refine hseq_nil ?_
    refine h11 _ _ rfl ?_
    refine wc (fun hc2=>?_) (fun hc2=>?_)
    ·have hr2:=hc2;(try simp only [hcs,Int.reduceToNat] at hc2)
     refine hw_ret<|hq_block_ret<|hq_then_ret<|hq_then_ret<|hq_block_ret<|hq_block_ret<|hq_then_ret<|hq_then_ret<|hq_block_ret ?_
     refine hq_retI rfl ?_
     exact .inr ⟨_,by rw [hXN];exact hla.1,hjx⟩
    have hr2:=hc2;(try simp only [hcs,Int.reduceToNat] at hc2)
    exfalso;simp at hr2
  have hr1:=hc1;(try simp only [hcs,Int.reduceToNat] at hc1)
  refine hw_exit ?_
  refine hq_then_exit<|hq_then_exit<|hq_block_here<|hq_block ?_
  refine h5 _ _ rfl ?_
  refine hw_region ?_
  refine s0 hai ?_
  refine sm<|hseq_nil ?_
  exact hL2 (k+1) O W F _ _ (by (try dsimp only);omega) (by (try dsimp only);omega) (by (try dsimp only);have h0:y=0:=om;rw [part_len bg k hk4,←ones_end (by rw [hd,h0]) hm];exact hg) (hsub_of rfl (Nat.le_refl _) tsa HpSub.nil)
 have hr0:=hc0;(try simp only [hcs,Int.reduceToNat] at hc0)
 refine hw_exit ?_
 refine hq_then_exit<|hq_then_exit<|hq_block_here ?_
 refine hq_fall ?_
 refine hq_retI rfl ?_
 obtain rfl:k=4:=om;exact .inl ⟨O,by have hj:=hg.j;rw [hXN];unfold Bag.list;exact hj⟩
def netF (on be:HV) (f e:Bag) (m:Bool):Nat→Nat→HV:=fun _ j=>match j with
 | 0=>on | 1=>be
 | 2=>bagF f 0 | 3=>bagF f 1 | 4=>bagF f 2 | 5=>bagF f 3
 | 6=>bagF e 0 | 7=>bagF e 1 | 8=>bagF e 2 | 9=>bagF e 3
 | _=>boolV m
@[reducible] def netO (g:Nat) (on be:HV):HObj:=⟨g,1,11,71,0,netF on be Bag.zero Bag.zero false⟩
@[reducible] def rowF (β:Nat→Bag):Nat→Nat→HV:=fun i j=>bagF (β i) j
@[reducible] def rowO (g N:Nat) (β:Nat→Bag):HObj:=⟨g,N,4,33,0,rowF β⟩
def linkI (A B:Bag) (β:Nat→Bag) (i:Nat):Nat→Bag:=fun p=>if (p:Int)∈A.list.take i then bun (β p) B else β p
theorem linkI_zero (A B:Bag) (β:Nat→Bag):linkI A B β 0=β:=by funext p;simp [linkI]
theorem list_lt (A:Bag) {i:Nat} (hi:i < A.list.length):∃ q:Nat,q < 256∧A.has q=true∧A.list.getD i 0=(q:Int):=by
 have hm:A.list.getD i 0∈A.list:=by rw [List.getD_eq_getElem?_getD,List.getElem?_eq_getElem hi];exact List.getElem_mem hi
 rw [A.list_eq] at hm
 obtain ⟨q,hq,he⟩:=List.mem_map.1 hm
 rw [List.mem_filter,List.mem_range] at hq
 exact ⟨q,hq.1,hq.2,by rw [A.list_eq];exact he.symm⟩
theorem list_nodup (A:Bag):A.list.Nodup:=by
 rw [A.list_eq]
 exact List.Pairwise.map _ (fun a b h=>by intro e;exact h (Int.ofNat.inj e)) ((List.nodup_range (n:=256)).filter _)
theorem not_take (A:Bag) {i:Nat} (hi:i < A.list.length):A.list.getD i 0∉A.list.take i:=by
 intro h
 obtain ⟨k,hk,he⟩:=List.mem_take_iff_getElem.1 h
 have hk2:k < i∧k < A.list.length:=by omega
 rw [List.getD_eq_getElem?_getD,List.getElem?_eq_getElem hi] at he
 have:=(List.getElem_inj (list_nodup A)).1 he
 omega
theorem linkI_succ (A B:Bag) (β:Nat→Bag) {i q:Nat} (hi:i < A.list.length) (hq:A.list.getD i 0=(q:Int)) (p:Nat):linkI A B β (i+1) p=if p=q then bun (linkI A B β i q) B else linkI A B β i p:=by
 have hn:=not_take A hi
 have e:A.list.take (i+1)=A.list.take i++[(q:Int)]:=by
  rw [List.take_add_one,List.getElem?_eq_getElem hi]
  rw [List.getD_eq_getElem?_getD,List.getElem?_eq_getElem hi] at hq
  simp at hq
  rw [hq];rfl
 rw [hq] at hn
 unfold linkI
 rw [e]
 by_cases hp:p=q
 ·subst hp
  rw [if_pos rfl,if_neg hn,if_pos (by simp)]
 ·rw [if_neg hp]
  have:((p:Int)∈A.list.take i++[(q:Int)])↔(p:Int)∈A.list.take i:=by
   simp;intro h;exact absurd (by exact_mod_cast h) hp
  by_cases h:(p:Int)∈A.list.take i
  ·rw [if_pos h,if_pos (this.2 h)]
  ·rw [if_neg h,if_neg (fun h'=>h (this.1 h'))]
theorem linkI_ok {A B:Bag} (hB:B.ok) {β:Nat→Bag} (hβ:∀ p,(β p).ok) (i p:Nat):(linkI A B β i p).ok:=by
 unfold linkI;split
 ·exact bun_ok (hβ p) hB
 ·exact hβ p
theorem linkI_end (A B:Bag) (β:Nat→Bag) {p:Nat} (hp:p < 256):linkI A B β A.list.length p=linkF β (A,B) p:=by
 unfold linkI linkF
 rw [List.take_length]
 by_cases h:A.has p=true
 ·rw [if_pos ((A.mem_list p hp).2 h),if_pos h]
 ·rw [if_neg (fun h'=>h ((A.mem_list p hp).1 h')),if_neg h]
theorem okz_net {kp sh:List (Nat×HObj)} {g1 g2 g3 M:Nat} {o2 o3:HObj} (h2:hget kp 9002=some o2) (e2:o2.g=g2) (h3:hget kp 9003=some o3) (e3:o3.g=g3):OKz kp sh (netO g1 (.os 9002 g2 0 M) (.os 9003 g3 0 M)) (netO g1 (.os 9002 g2 0 M) (.os 9003 g3 0 M)):=.of fun i j hi hj=>by
 match j,hj with
 | 0,_=>exact .os _ _ _ _ _ h2 e2
 | 1,_=>exact .os _ _ _ _ _ h3 e3
 | 2,_=>exact .fz _ _ (.imm _)
 | 3,_=>exact .fz _ _ (.imm _)
 | 4,_=>exact .fz _ _ (.imm _)
 | 5,_=>exact .fz _ _ (.imm _)
 | 6,_=>exact .fz _ _ (.imm _)
 | 7,_=>exact .fz _ _ (.imm _)
 | 8,_=>exact .fz _ _ (.imm _)
 | 9,_=>exact .fz _ _ (.imm _)
 | 10,_=>exact .fz _ _ (.imm _)
theorem okz_row {kp sh:List (Nat×HObj)} {g M:Nat} {β β':Nat→Bag} (h:∀ p,p < M→β p=β' p):OKz kp sh (rowO g M β) (rowO g M β'):=.of fun i j hi hj=>by
 show Kz kp sh (bagF (β i) j) (bagF (β' i) j)
 rw [h i hi];exact .fz _ _ (.imm _)
theorem osub_row {g M:Nat} {f:Nat→Nat→HV} {β:Nat→Bag} (h:∀ i j,i < M→j < 4→f i j=bagF (β i) j):OSub ⟨g,M,4,33,0,f⟩ (rowO g M β):=OSub.of fun i j hi hj=>by
 rw [h i j hi hj];exact .refl _
theorem upd_row {γ:Nat→Bag} {x:Bag} {q i j:Nat} (hj:j < 4):upd (rowF γ) q 0 4 (bagH x).cell i j=bagF (if i=q then x else γ i) j:=by
 unfold upd inb
 have h0:(Nat.ble 0 j&&Nat.blt j (0+4))=true:=by simp [hj]
 by_cases e:i=q
 ·subst e
  have:Nat.beq i i=true:=by simp
  rw [h0,this,if_pos rfl];rfl
 ·have:Nat.beq i q=false:=(by rw [Bool.eq_false_iff];intro h;exact e (Nat.eq_of_beq_eq_true h))
  rw [this,if_neg e];rfl
theorem link_h (A B:Bag) (hA:A.ok) (hB:B.ok) (M g1 g2 g3:Nat) (ρ β:Nat→Bag) (hβ:∀ p,(β p).ok) (hN:M≤256) (hin:∀ p,p < 256→A.has p=true→p < M) :
  HFunD Tryz.prog 90 [.pt 9001 g1 0 0,bagH A,bagH B] [(9001,netO g1 (.os 9002 g2 0 M) (.os 9003 g3 0 M)),(9002,rowO g2 M ρ),(9003,rowO g3 M β)] (.tup 0 fun _=>default) [(9001,netO g1 (.os 9002 g2 0 M) (.os 9003 g3 0 M)),(9002,rowO g2 M ρ),(9003,rowO g3 M (linkF β (A,B)))]:=by
 intro c
 refine hfun_ofM Tryz.func90 rfl kr _ _ _ _ rfl 25 rfl rfl (fun X ok hX hM=>?_)
 refine srg fun N h1=>?_
 refine hm_1 3 (hop_box (id:=3) (sz:=1) rfl rfl rfl (nb rfl) (nb rfl)) rfl rfl pre0 rfl rfl (c':=c+1) rfl ?_
 refine hm_1 4 (hop_box (id:=4) (sz:=4) rfl rfl rfl (nb rfl) (nb rfl)) rfl rfl pre0 rfl rfl (c':=c+2) rfl ?_
 refine hm_1 5 (hop_box (id:=5) (sz:=4) rfl rfl rfl (nb rfl) (nb rfl)) rfl rfl pre0 rfl rfl (c':=c+3) rfl ?_
 refine snl h1<|srg fun N h2=>?_
 refine sl ty_33 ?_
 refine s0 (hop_call0 (xs:=[_]) (all_h A) ⟨rfl,trivial⟩ ⟨fe,trivial⟩) ?_
 refine snl h2<|hw_block ?_
 refine hw_range (α:=Nat) ⟨rfl,rfl,rfl⟩ (all_it A hA) rfl (cs:=[_]) rfl (fun i hi=>by first | rfl | (cases i <;> first | rfl | (simp at hi))) ⟨fe,trivial⟩ rfl (fun _=>rfl) rfl (fun x=>[(9001,netO g1 (.os 9002 g2 0 M) (.os 9003 g3 0 M)),(9002,rowO g2 M ρ),(9003,rowO g3 M (linkI A B β x)),(3,⟨c,1,1,36,0,fun _ _=>.pt 9001 g1 0 0⟩),(5,⟨c+2,1,4,33,0,fun _ j=>bagF B j⟩)]) (fun x=>x) (fun x=>x≤A.list.length) (0) om (by first | rfl | omega) hsa rfl (fun i c hx hi C1 lr hC1 NhR3 hR3=>?_) (fun i c hx hi=>?_)
 ·skip
  (try dsimp only at hx hi hR3 ⊢)
  obtain ⟨q,hq256,hqA,hq⟩:=list_lt A hi;have hqN:=hin q hq256 hqA;rw [hq]
  refine hw_region<|sa<|hseq_nil ?_
  refine hR3 _ (fun C2 hC4=>?_)
  refine hw_block<|hd_start ?_
  refine dl 1 ty_36 ?_
  refine dk 2 ?_
  refine df 3 fd_71_1 ?_
  refine dl 4 ty_69 ?_
  refine dm 5 ?_
  refine dl 6 ty_36 ?_
  refine dk 7 ?_
  refine df 8 fd_71_1 ?_
  refine dl 9 ty_69 ?_
  refine dm 10 ?_
  refine hd_q 20 (hol_ia_os el_69 rfl rfl om om) rfl rfl (pre1 rfl) rfl rfl (k':=11) rfl ?_
  refine hd_q 21 (hol_load ty_33 rfl om (nb rfl) (fun h=>(by cases h))) rfl rfl (pre1 rfl) rfl rfl (k':=12) rfl ?_
  refine dl 13 ty_33 ?_
  refine d0 14 (hop_call0 (xs:=[_,_]) (or_h (linkI A B β i q) B (linkI_ok hB hβ i q) hB) ⟨rfl,⟨rfl,trivial⟩⟩ ⟨(Fz.eq (by show HV.agg 4 _=_;rw [Nat.zero_add];rfl)),⟨fe,trivial⟩⟩) ?_
  refine hd_q 24 (hol_ia_os el_69 rfl rfl om om) rfl rfl (pre1 rfl) rfl rfl (k':=15) rfl ?_
  refine hd_s1 (hol_store ty_33 rfl rfl rfl rfl om (nb rfl) (nb rfl)) rfl rfl (pre1 rfl) (k':=16) rfl ?_
  refine hd_nil kr kr (c':=c+16) rfl ?_
  refine hq_block ?_
  exact rq_normal ⟨i+1,by (try dsimp only);omega,by first | rfl | omega,(hsr rfl (hsr rfl (HpSub.cons rfl (osub_row fun p j hp hj=>(upd_row hj).trans (by rw [linkI_succ A B β hi hq,Nat.zero_add];rfl)) hsa)))⟩
 ·skip
  (try dsimp only at hx hi ⊢)
  refine hq_block ?_
  refine hq_fallM ?_
  refine hq_retF hM ?_
  refine hf_retR0 ok hX RetS.one rfl  [] rfl pre0 (()) (trivial) (by rfl) (by rfl) (kza) ?_
  exact ⟨⟨_,rfl,okz_net rfl rfl rfl rfl⟩,⟨⟨_,rfl,okz_row (fun _ _=>rfl)⟩,⟨⟨_,rfl,okz_row (fun p hp=>by first | (rw [hi];exact linkI_end A B β om) | exact linkI_end A B β om)⟩,trivial⟩⟩⟩
def pcF (p:Pc):Nat→HV:=fun j=>match j with
 | 0=>u64V (p.first.word 0) | 1=>u64V (p.first.word 1) | 2=>u64V (p.first.word 2) | 3=>u64V (p.first.word 3)
 | 4=>u64V (p.ends.word 0) | 5=>u64V (p.ends.word 1) | 6=>u64V (p.ends.word 2) | 7=>u64V (p.ends.word 3)
 | _=>boolV p.empty
@[reducible] def pcH (p:Pc):HV:=.agg 9 (pcF p)
theorem fz_pcF {sh:List (Nat×HObj)} (p:Pc) (j:Nat):Fz sh (pcF p j) (pcF p j):=by unfold pcF;split <;> exact .imm _
instance (p:Pc) (j:Nat):Frz (pcF p j):=⟨fz_pcF p j⟩
theorem fz_bg {sh:List (Nat×HObj)} {f:Nat→HV} {x:Bag} (h:∀ j,j < 4→f j=bagF x j):Fz sh (.agg 4 f) (bagH x):=.agg _ _ _ fun j hj=>by rw [h j hj];exact .imm _
theorem j4 {f g:Nat→HV} (h0:f 0=g 0) (h1:f 1=g 1) (h2:f 2=g 2) (h3:f 3=g 3):∀ j,j < 4→f j=g j:=fun j hj=>by
 match j,hj with | 0,_=>exact h0 | 1,_=>exact h1 | 2,_=>exact h2 | 3,_=>exact h3
theorem j9 {P:Nat→Prop} (h0:P 0) (h1:P 1) (h2:P 2) (h3:P 3) (h4:P 4) (h5:P 5) (h6:P 6) (h7:P 7) (h8:P 8):∀ j,j < 9→P j:=fun j hj=>by
 match j,hj with | 0,_=>exact h0 | 1,_=>exact h1 | 2,_=>exact h2 | 3,_=>exact h3 | 4,_=>exact h4 | 5,_=>exact h5 | 6,_=>exact h6 | 7,_=>exact h7 | 8,_=>exact h8
theorem osub_pc {g ty:Nat} {f:Nat→Nat→HV} {p:Pc} (h:∀ j,j < 9→f 0 j=pcF p j):OSub ⟨g,1,9,ty,0,f⟩ ⟨g,1,9,ty,0,fun _=>pcF p⟩:=OSub.of fun i j hi hj=>by
 obtain rfl:i=0:=by omega
 rw [h j hj];exact .refl _
theorem kz_pc {kp sh:List (Nat×HObj)} {f:Nat→HV} {p:Pc} (h:∀ j,j < 9→f j=pcF p j):Kz kp sh (.agg 9 f) (pcH p):=.fz _ _ (.agg _ _ _ fun j hj=>by rw [h j hj];exact fz_pcF p j)
theorem clk3 {g1 g2 g3 M M' M'':Nat} {a b:HV} {ρ β ρ' β':Nat→Bag} {o1:HObj} (h1:o1.g=g1):Clocks [(9001,netO g1 a b),(9002,rowO g2 M ρ),(9003,rowO g3 M β)] [(9001,o1),(9002,rowO g2 M' ρ'),(9003,rowO g3 M'' β')] :=
 clocks_cons (.head _) h1.symm (clocks_cons (.tail _ (.head _)) rfl (clocks_cons (.tail _ (.tail _ (.head _))) rfl clocks_nil))
theorem join_h (a b:Pc) (ha:a.ok) (hb:b.ok) (M g1 g2 g3:Nat) (ρ β:Nat→Bag) (hβ:∀ p,(β p).ok) (hN:M≤256) (hin:∀ p,p < 256→a.ends.has p=true→p < M) :
  HFunD Tryz.prog 68 [.pt 9001 g1 0 0,pcH a,pcH b] [(9001,netO g1 (.os 9002 g2 0 M) (.os 9003 g3 0 M)),(9002,rowO g2 M ρ),(9003,rowO g3 M β)] (pcH (a.join b)) [(9001,netO g1 (.os 9002 g2 0 M) (.os 9003 g3 0 M)),(9002,rowO g2 M ρ),(9003,rowO g3 M (linkF β (a.ends,b.first)))]:=by
 intro c
 refine hfun_of Tryz.func68 rfl kr _ _ _ _ rfl 42 rfl rfl (fun X ok hX=>?_)
 refine srg fun N h1=>?_
 refine hm_1 4 (hop_box (id:=4) (sz:=9) rfl rfl rfl (nb rfl) (nb rfl)) rfl rfl pre0 rfl rfl (c':=c+1) rfl ?_
 refine hm_1 5 (hop_box (id:=5) (sz:=9) rfl rfl rfl (nb rfl) (nb rfl)) rfl rfl pre0 rfl rfl (c':=c+2) rfl ?_
 refine hm_1 6 (hop_alloc (id:=6) (sz:=9) zc_74 rfl rfl (nb rfl) (nb rfl)) rfl rfl pre0 rfl rfl (c':=c+3) rfl ?_
 refine snl h1<|srg fun N h2=>sm ?_
 refine sf fd_74_1 ?_
 refine sl ty_33 ?_
 refine sf fd_74_0 ?_
 refine sl ty_33 ?_
 refine (hsub_shr 10 [] rfl pre0 rfl ((show Fz [] _ (bagH a.ends) from fz_bg (by exact j4 rfl rfl rfl rfl)))).seq ?_
 refine (hsub_shr 12 [] rfl pre0 rfl ((show Fz [] _ (bagH b.first) from fz_bg (by exact j4 rfl rfl rfl rfl)))).seq ?_
 refine hm_ 13 (hop_funD (xs:=[_,_,_]) (pre:=[(9001,_),(9002,_),(9003,_)]) (link_h a.ends b.first ha.2 hb.1 M g1 g2 g3 ρ β hβ hN hin) ((clk3 rfl)) ⟨rfl,⟨rfl,⟨rfl,trivial⟩⟩⟩) rfl rfl (preC rfl (preC rfl (preC rfl pre0))) rfl rfl (c':=c+4) rfl ?_
 refine snl h2<|srg fun N h3=>?_
 refine sf fd_74_0 ?_
 refine sl ty_33 ?_
 refine sf fd_74_1 ?_
 refine sl ty_33 ?_
 refine sf fd_74_2 ?_
 refine sl ty_4 ?_
 refine sm ?_
 refine stg 20 (fun hb=>hop_fa fd_74_2 rfl) rfl rfl rfl rfl rfl ?_
 refine hq_g 22 6 20 true _ (fun hb=>hol_load ty_4 rfl (nb rfl) (nb rfl) rq) rfl rfl rfl rfl (pre1 rfl) rfl rfl rfl ?_
 refine hq_p 23 (hstep_and _ _ rfl rfl rfl) rfl rfl rfl ?_
 refine s0 (hop_build (hs:=[(0,4,_),(4,4,_),(8,1,_)]) st_74 rfl rfl ⟨rfl,rfl,rfl,rfl,rfl,⟨rfl,rfl,rfl,rfl,rfl,⟨rfl,rfl,rfl,rfl,rfl,trivial⟩⟩⟩) ?_
 refine hm_1 7 (hop_alloc (id:=7) (sz:=9) zc_74 rfl rfl (nb rfl) (nb rfl)) rfl rfl pre0 rfl rfl (c':=c+5) rfl ?_
 refine sw (c+6) ty_74 ?_
 refine nu ?_
 refine h3 _<|hw_seq fun Nh4 h4=>srg fun N h5=>?_
 refine sf fd_74_2 ?_
 refine sl ty_4 ?_
 refine snl h5 ?_
 refine wc (fun hc0=>?_) (fun hc0=>?_)
 ·have hr0:=hc0;(try simp only [hcs,Int.reduceToNat] at hc0)
  refine hw_region ?_
  refine sf fd_74_0 ?_
  refine sl ty_33 ?_
  refine sf fd_74_0 ?_
  refine sl ty_33 ?_
  refine s0 (hop_call0 (xs:=[_,_]) (or_h a.first b.first ha.1 hb.1) ⟨rfl,⟨rfl,trivial⟩⟩ ⟨(fz_bg (by exact j4 rfl rfl rfl rfl)),⟨(fz_bg (by exact j4 rfl rfl rfl rfl)),trivial⟩⟩) ?_
  refine sf fd_74_0 ?_
  refine sx (c+7) ty_33 ?_
  refine snl h4<|hw_seq fun Nh6 h6=>srg fun N h7=>?_
  refine sf fd_74_2 ?_
  refine sl ty_4 ?_
  refine snl h7 ?_
  refine wc (fun hc1=>?_) (fun hc1=>?_)
  ·have hr1:=hc1;(try simp only [hcs,Int.reduceToNat] at hc1)
   refine hw_region ?_
   refine sf fd_74_1 ?_
   refine sl ty_33 ?_
   refine sf fd_74_1 ?_
   refine sl ty_33 ?_
   refine s0 (hop_call0 (xs:=[_,_]) (or_h b.ends a.ends hb.2 ha.2) ⟨rfl,⟨rfl,trivial⟩⟩ ⟨(fz_bg (by exact j4 rfl rfl rfl rfl)),⟨(fz_bg (by exact j4 rfl rfl rfl rfl)),trivial⟩⟩) ?_
   refine sf fd_74_1 ?_
   refine sx (c+8) ty_33 ?_
   refine snl h6<|srg fun N h8=>?_
   refine sl ty_74 ?_
   refine sw (c+9) ty_74 ?_
   refine snl h8<|hw_ret ?_
   refine hf_retR1 ok hX RetS.one rfl (rvl_cell rfl rfl ty_74 rqc rfl rfl) [] rfl pre0 (()) (trivial) (by rfl) (by rfl) ((by rw [show a.join b=⟨bun a.first b.first,bun b.ends a.ends,true⟩ from by simp [Pc.join,hc0,hc1]];exact kz_pc (by exact j9 rfl rfl rfl rfl rfl rfl rfl rfl (by simp [pcF,hc0,hc1];rfl)))) ?_
   exact ⟨⟨_,rfl,okz_net rfl rfl rfl rfl⟩,⟨⟨_,rfl,okz_row (fun _ _=>rfl)⟩,⟨⟨_,rfl,okz_row (fun _ _=>rfl)⟩,trivial⟩⟩⟩
  have hr1:=hc1;(try simp only [hcs,Int.reduceToNat] at hc1)
  refine hw_skip<|h6 _<|srg fun N h9=>?_
  refine sl ty_74 ?_
  refine sw (c+8) ty_74 ?_
  refine snl h9<|hw_ret ?_
  refine hf_retR1 ok hX RetS.one rfl (rvl_cell rfl rfl ty_74 rqc rfl rfl) [] rfl pre0 (()) (trivial) (by rfl) (by rfl) ((by rw [show a.join b=⟨bun a.first b.first,b.ends,false⟩ from by simp [Pc.join,hc0,hc1]];exact kz_pc (by exact j9 rfl rfl rfl rfl rfl rfl rfl rfl (by simp [pcF,hc0,hc1];rfl)))) ?_
  exact ⟨⟨_,rfl,okz_net rfl rfl rfl rfl⟩,⟨⟨_,rfl,okz_row (fun _ _=>rfl)⟩,⟨⟨_,rfl,okz_row (fun _ _=>rfl)⟩,trivial⟩⟩⟩
 have hr0:=hc0;(try simp only [hcs,Int.reduceToNat] at hc0)
 refine hw_skip<|h4 _<|hw_seq fun Nh10 h10=>srg fun N h11=>?_
 refine sf fd_74_2 ?_
 refine sl ty_4 ?_
 refine snl h11 ?_
 refine wc (fun hc1=>?_) (fun hc1=>?_)
 ·have hr1:=hc1;(try simp only [hcs,Int.reduceToNat] at hc1)
  refine hw_region ?_
  refine sf fd_74_1 ?_
  refine sl ty_33 ?_
  refine sf fd_74_1 ?_
  refine sl ty_33 ?_
  refine s0 (hop_call0 (xs:=[_,_]) (or_h b.ends a.ends hb.2 ha.2) ⟨rfl,⟨rfl,trivial⟩⟩ ⟨(fz_bg (by exact j4 rfl rfl rfl rfl)),⟨(fz_bg (by exact j4 rfl rfl rfl rfl)),trivial⟩⟩) ?_
  refine sf fd_74_1 ?_
  refine sx (c+7) ty_33 ?_
  refine snl h10<|srg fun N h12=>?_
  refine sl ty_74 ?_
  refine sw (c+8) ty_74 ?_
  refine snl h12<|hw_ret ?_
  refine hf_retR1 ok hX RetS.one rfl (rvl_cell rfl rfl ty_74 rqc rfl rfl) [] rfl pre0 (()) (trivial) (by rfl) (by rfl) ((by rw [show a.join b=⟨a.first,bun b.ends a.ends,false⟩ from by simp [Pc.join,hc0,hc1]];exact kz_pc (by exact j9 rfl rfl rfl rfl rfl rfl rfl rfl (by simp [pcF,hc0,hc1];rfl)))) ?_
  exact ⟨⟨_,rfl,okz_net rfl rfl rfl rfl⟩,⟨⟨_,rfl,okz_row (fun _ _=>rfl)⟩,⟨⟨_,rfl,okz_row (fun _ _=>rfl)⟩,trivial⟩⟩⟩
 have hr1:=hc1;(try simp only [hcs,Int.reduceToNat] at hc1)
 refine hw_skip<|h10 _<|srg fun N h13=>?_
 refine sl ty_74 ?_
 refine sw (c+7) ty_74 ?_
 refine snl h13<|hw_ret ?_
 refine hf_retR1 ok hX RetS.one rfl (rvl_cell rfl rfl ty_74 rqc rfl rfl) [] rfl pre0 (()) (trivial) (by rfl) (by rfl) ((by rw [show a.join b=⟨a.first,b.ends,false⟩ from by simp [Pc.join,hc0,hc1]];exact kz_pc (by exact j9 rfl rfl rfl rfl rfl rfl rfl rfl (by simp [pcF,hc0,hc1];rfl)))) ?_
 exact ⟨⟨_,rfl,okz_net rfl rfl rfl rfl⟩,⟨⟨_,rfl,okz_row (fun _ _=>rfl)⟩,⟨⟨_,rfl,okz_row (fun _ _=>rfl)⟩,trivial⟩⟩⟩
theorem sg_imm (x:Sg) (j:Nat):∃ v,sgF x j=.imm v:=by
 match j with
 | 0=>exact ⟨_,rfl⟩
 | 1=>exact ⟨_,rfl⟩
 | 2=>exact ⟨_,rfl⟩
 | 3=>exact ⟨_,rfl⟩
 | j+4=>exact ⟨_,rfl⟩
theorem sg_fz {sh:List (Nat×HObj)} (x:Sg) (j:Nat):Fz sh (sgF x j) (sgF x j):=by
 obtain ⟨v,hv⟩:=sg_imm x j
 rw [hv];exact .imm _
theorem osub1 {g ty fl:Nat} {f f':Nat→Nat→HV} (h0:Sb (f 0 0) (f' 0 0)) (hfn:fl≤1:=by exact Nat.zero_le _):OSub ⟨g,1,1,ty,fl,f⟩ ⟨g,1,1,ty,fl,f'⟩:=.of (hfn:=hfn) fun i j hi hj=>by
 obtain rfl:i=0:=by omega
 match j,hj with | 0,_=>exact h0
@[reducible] def cloV:HV:=.fn (.func 78) ([.pt 2 0 0 0,.pt 3 1 0 0,.pt 4 2 0 0]:List HV).length (fun i=>([.pt 2 0 0 0,.pt 3 1 0 0,.pt 4 2 0 0]:List HV).getD i default)
theorem lex_pan {w:World} {F:Addr→Prop} {s:List UInt8} {fn:Func} {n clk:Nat} {tm:List (Nat×TV)} {hp:List (Nat×HObj)} {y:Int×Int} {x:HV} {va ve:Int} (hv:lexV s=.error y) (hfn:fn.results=#[.cell 2 105,.cell 3 3,.cell 4 37])
  (h2:tget tm 2=some (.v (.pt 2 0 0 0))) (h3:tget tm 3=some (.v (.pt 3 1 0 0))) (h4:tget tm 4=some (.v (.pt 4 2 0 0)))
  (o2:hget hp 2=some (cell1 0 105 x)) (o3:hget hp 3=some (cell1 1 3 (intV va))) (o4:hget hp 4=some (cell1 2 37 (intV ve))) :
  HPan ((Ctx.top w F).wait cloV) (bodyPostD Tryz.prog fn (PurePost w F (lexH (lexO (lexV s))))) ⟨n,tm,hp,clk⟩ (faultV y):=by
 refine hpan_wait ⟨rfl,rfl⟩ (lex1_P clk 0 1 2 x va ve y) (preC o2 (preC o3 (preC o4 pre0))) (fun x kp c' h=>by obtain ⟨_,_,h,_⟩:=h;cases h) (fun r kp c' h=>?_)
 obtain ⟨_,_,hr,hk⟩:=h
 subst hk
 refine hq_ret3 hfn (rvl_cell h2 rfl ty_105 (fun h=>by first | rfl | cases h) rfl rfl) (rvl_cell h3 rfl ty_3 (fun h=>by first | rfl | cases h) rfl rfl) (rvl_cell h4 rfl ty_37 (fun h=>by first | rfl | cases h) rfl rfl) [] rfl pre0 ?_
 rw [hv]
 exact fz_t3 (.nil 0 5 _ (by decide) none) (.imm _) (.imm _)
theorem sign_d (g:Nat) (s:List UInt8) (i:Nat) (hs:s.length≤1000000) (hi:i≤s.length) {x:Sg} {q:Nat} (h:oneR s i=.ok (x,q)):HFunD Tryz.prog 84 [.pt 9001 g 0 0] [(9001,rdO g s i)] (sgH x) [(9001,rdO g s q)]:=fun c =>
 (sign_h c g s i hs hi).mono fun e kp c' hP=>by
  rcases hP with ⟨y,hy,he,hk⟩ | ⟨y,hy,_⟩
  ·rw [h] at hy;injection hy with hy;subst hy;exact ⟨(),trivial,he,hk⟩
  ·rw [h] at hy;cases hy
theorem lex_h (s:List UInt8) (hs:s.length≤1000000):HPure Tryz.prog 59 [strV s] (lexH (lexO (lexV s))):=by
 have hV:=lexV_at s
 refine hpure_ofD Tryz.func59 rfl kr _ _ _ rfl 55 rfl rfl (fun w F=>?_)
 refine hw_seqC (fun Nh1 h1=>?_)
 refine hw_region ?_
 refine hm_1 2 (hop_alloc (id:=2) (sz:=1) zc_105 rfl rfl (nb rfl) (nb rfl)) rfl rfl pre0 rfl rfl (c':=1) rfl ?_
 refine hm_1 3 (hop_alloc (id:=3) (sz:=1) zc_3 rfl rfl (nb rfl) (nb rfl)) rfl rfl pre0 rfl rfl (c':=2) rfl ?_
 refine hm_1 4 (hop_alloc (id:=4) (sz:=1) zc_37 rfl rfl (nb rfl) (nb rfl)) rfl rfl pre0 rfl rfl (c':=3) rfl ?_
 refine hseq_nil ?_
 refine h1 _ _ rfl ?_
 refine hw_seqC (fun Nh2 h2=>?_)
 refine hw_region ?_
 refine s0 (hop_makeFunc (hs:=[_,_,_]) ⟨rfl,⟨rfl,⟨rfl,trivial⟩⟩⟩) ?_
 refine hseq_defer rfl ?_
 refine h2 _ _ rfl ?_
 refine hw_seqC (fun Nh3 h3=>?_)
 refine hw_region<|sm ?_
 refine s0 (hop_build (hs:=[(0,1,_)]) st_139 rfl rfl ⟨rfl,rfl,rfl,rfl,rfl,trivial⟩) ?_
 refine hm_1 10 (hop_box (id:=9001) (sz:=2) rfl rfl rfl (by decide) (by decide)) rfl rfl pre0 rfl rfl (c':=4) rfl ?_
 refine sa<|hseq_nil ?_
 refine h3 _ _ rfl ?_
 refine hw_block ?_
 refine (hsub_ownc 2 0 54 5 113 (sgsF []) (fun _ _=>.os 54 4 0 0) rfl rfl (fun j hj=>.inl ⟨by omega,rfl⟩) (by decide) (by decide) (c':=5) rfl).wp ?_
 refine hw_loopc (α:=Nat×List Sg×Nat×Nat) (fun x c=>⟨55,[(0,.v (strV s)),(2,.v (.pt 2 0 0 0)),(3,.v (.pt 3 1 0 0)),(4,.v (.pt 4 2 0 0)),(5,.v (.pt 9001 3 0 0))],[(9001,rdO 3 s x.1),(2,cell1 0 105 (.os 54 x.2.2.1 0 x.2.2.2)),(3,cell1 1 3 (intV 0)),(4,cell1 2 37 (intV 0)),(54,⟨x.2.2.1,x.2.2.2,5,113,0,sgsF x.2.1⟩)],c⟩) (fun x=>x.1≤s.length∧x.2.1.length≤200∧x.2.2.2=x.2.1.length∧lexAt s x.1 x.2.1=lexV s) (fun x=>s.length - x.1) ((0,[],4,0)) (by exact ⟨Nat.zero_le _,Nat.zero_le _,rfl,hV⟩) (hsub_of rfl (Nat.le_refl _) tsa (HpSub.cons rfl (osub2 (.refl _) (.refl _)) (hsr rfl (HpSub.cons rfl (osub1 (.refl _)) (HpSub.cons rfl (osub1 (.refl _)) hsa))))) (fun x c hx NhL4 hL4=>?_)
 revert hx hL4;obtain ⟨i,out,gl,n⟩:=x;intro hx hL4;dsimp only at hx hL4 ⊢
 obtain ⟨hi,hol,hn,hL⟩:=hx
 refine hw_block ?_
 refine hw_seqC (fun Nh5 h5=>?_)
 refine hw_block ?_
 refine hw_loopc (α:=Nat) (fun x c=>⟨55,[(0,.v (strV s)),(2,.v (.pt 2 0 0 0)),(3,.v (.pt 3 1 0 0)),(4,.v (.pt 4 2 0 0)),(5,.v (.pt 9001 3 0 0))],[(9001,rdO 3 s x),(2,cell1 0 105 (.os 54 gl 0 n)),(3,cell1 1 3 (intV 0)),(4,cell1 2 37 (intV 0)),(54,⟨gl,n,5,113,0,sgsF out⟩)],c⟩) (fun x=>i≤x∧x≤s.length∧lexAt s x out=lexV s) (fun x=>s.length - x) (i) (by exact ⟨Nat.le_refl _,hi,hL⟩) (hsub_of rfl (Nat.le_refl _) tsa hsa) (fun j c hx NhL6 hL6=>?_)
 (try dsimp only at hx hL6 ⊢)
 obtain ⟨hij,hj,hLj⟩:=hx
 refine hw_seqC (fun Nh7 h7=>?_)
 refine hw_seqC (fun Nh8 h8=>?_)
 refine hw_region<|sm ?_
 refine hq_ 12 (hop_funR (xs:=[_]) (pre:=[(9001,_)]) (peek_h 3 s j hs hj) ⟨rfl,trivial⟩) rfl rfl (preC rfl pre0) rfl rfl ?_
 refine s0 hqi ?_
 refine hseq_nil ?_
 refine h8 _ _ rfl ?_
 refine wc (fun hc0=>?_) (fun hc0=>?_)
 ·have hr0:=hc0;(try simp only [hcs,Int.reduceToNat] at hc0)
  have hlt:j < s.length:=bz_lt om
  refine hw_skip ?_
  refine h7 _ _ rfl ?_
  refine hw_block<|hw_region<|sm ?_
  refine sn ?_
  refine sf fd_139_1 ?_
  refine sl ty_3 ?_
  refine s0 hai ?_
  refine sn ?_
  refine sf fd_139_1 ?_
  refine sx (c+1) ty_3 ?_
  refine hseq_nil<|hq_block ?_
  exact hL6 (j+1) _ _ (by (try dsimp only);exact ⟨by omega,hlt,by rw [←lexAt_sp hlt hc0];exact hLj⟩) (by (try dsimp only);omega) (hsub_of rfl (Nat.le_refl _) tsa (HpSub.cons rfl (osub2 (.refl _) (sb_int om)) hsa))
 have hr0:=hc0;(try simp only [hcs,Int.reduceToNat] at hc0)
 refine hw_exit ?_
 refine hq_then_exit<|hq_then_exit<|hq_block_here ?_
 refine h5 _ _ rfl ?_
 refine hw_seqC (fun Nh9 h9=>?_)
 refine hw_seqC (fun Nh10 h10=>?_)
 refine hw_region<|sm ?_
 refine sn ?_
 refine sf fd_139_1 ?_
 refine sl ty_3 ?_
 refine sm ?_
 refine s0 (hop_len_strl (T:=9) rfl kr rfl) ?_
 refine s0 hqi ?_
 refine hseq_nil ?_
 refine h10 _ _ rfl ?_
 refine wc (fun hc1=>?_) (fun hc1=>?_)
 ·have hr1:=hc1;(try simp only [hcs,Int.reduceToNat] at hc1)
  refine hw_seqC (fun Nh11 h11=>?_)
  refine hw_region ?_
  refine sl ty_105 ?_
  refine sw (c+1) ty_105 ?_
  refine sw (c+2) ty_3 ?_
  refine sw (c+3) ty_37 ?_
  refine hseq_nil ?_
  refine h11 _ _ rfl ?_
  refine hw_ret<|hq_then_ret<|hq_block_ret<|hq_then_ret<|hq_block_ret ?_
  refine hq_wait ⟨rfl,rfl⟩ (lex1_R _ 0 1 2 gl n (sgsF out) (fun i j=>sg_imm _ j) 0 0) (preC rfl (preC rfl (preC rfl (preC rfl pre0)))) (fun x kp c' h=>by obtain ⟨_,_,h,_⟩:=h;cases h) (fun r kp c' h=>?_);obtain ⟨_,_,hr,hk⟩:=h;subst hk
  refine hq_ret3 rfl (rvl_cell rfl rfl ty_105 rqc rfl rfl) (rvl_cell rfl rfl ty_3 rqc rfl rfl) (rvl_cell rfl rfl ty_37 rqc rfl rfl) [(54,_)] rfl (preC rfl pre0) ?_
  have e:lexV s=.ok out:=(by rw [←hLj];exact lexAt_end om);rw [e];exact fz_t3 (fz_row (l:=out) (enc:=sgF) (d:=default) (List.mem_cons_self ..) rfl hn (Nat.le_refl _) (fun i j hi hj=>sg_fz _ j)) (.imm _) (.imm _)
 have hr1:=hc1;(try simp only [hcs,Int.reduceToNat] at hc1)
 have hjl:j < s.length:=om
 refine hw_skip ?_
 refine h9 _ _ rfl ?_
 refine hw_seqC (fun Nh12 h12=>?_)
 refine hw_seqC (fun Nh13 h13=>?_)
 refine hw_region ?_
 refine sl ty_105 ?_
 refine s0 (hop_len_os (T:=105) rfl (elOf_spec el_105).1 rfl) ?_
 refine s0 hqi ?_
 refine hseq_nil ?_
 refine h13 _ _ rfl ?_
 refine wc (fun hc2=>?_) (fun hc2=>?_)
 ·have hr2:=hc2;(try simp only [hcs,Int.reduceToNat] at hc2)
  refine hw_seqC (fun Nh14 h14=>?_)
  refine hw_seqC (fun Nh15 h15=>?_)
  refine hw_region<|sm ?_
  refine hq_ 33 (hop_funR (xs:=[_]) (pre:=[(9001,_)]) (peek_h 3 s j hs hj) ⟨rfl,trivial⟩) rfl rfl (preC rfl pre0) rfl rfl ?_
  refine sa<|hseq_nil ?_
  refine h15 _ _ rfl ?_
  refine hw_seqC (fun Nh16 h16=>?_)
  refine hw_region<|sm ?_
  refine s0 (hop_call0 (xs:=[_]) (small_h _) ⟨rfl,trivial⟩ ⟨fe,trivial⟩) ?_
  refine s0 (hop_not rfl) ?_
  refine sm ?_
  refine gm 37 ?_
  refine stg 37 (fun hb=>hop_call0 (xs:=[_,_]) (indexByte_h [40,41,124,42,43,63,123] (s.getD j 0)) ⟨rfl,⟨rfl,trivial⟩⟩ ⟨fe,⟨(Fz.eq (by rw [bz_in hjl])),trivial⟩⟩) rfl rfl rfl rfl rfl ?_
  refine stg 37 (fun hb=>hop_lss rfl rfl) rfl rfl rfl rfl rfl ?_
  refine hq_p 41 (hstep_and _ _ rfl rfl rfl) rfl rfl rfl ?_
  refine nu ?_
  refine h16 _ _ rfl ?_
  refine wc (fun hc3=>?_) (fun hc3=>?_)
  ·have hr3:=hc3;(try simp only [hcs,Int.reduceToNat] at hc3)
   have hb:beginZ (bz s j)=false:=(by have h:=hr3;rw [bz_in hjl] at h;rw [begin_iff] at h;rw [bz_in hjl];simpa using h)
   refine hw_region<|sm ?_
   refine hf_callP (xs:=[_]) (pre:=[(9001,_)]) (odd_h _ 3 s j hs hj) ⟨rfl,trivial⟩ (preC rfl pre0) (fun y c1 hy=>?_)
   refine (hpan_then (hpan_then (hpan_block (hpan_then (hpan_block ?_)))))
   exact lex_pan (by rw [←hLj,hy];exact lexAt_odd hjl hc0 om hb) rfl rfl rfl rfl rfl rfl rfl
  have hr3:=hc3;(try simp only [hcs,Int.reduceToNat] at hc3)
  have hb:beginZ (bz s j)=true:=(by have h:=hr3;rw [bz_in hjl] at h;rw [begin_iff] at h;rw [bz_in hjl];simpa using h)
  refine hw_skip ?_
  refine h14 _ _ rfl ?_
  refine hw_region<|sm<|sm ?_
  refine sn ?_
  refine sf fd_139_1 ?_
  refine sl ty_3 ?_
  refine hf_callP (xs:=[_,_,_]) (pre:=[(9001,_)]) (stop_h _ 3 s j _ _) ⟨rfl,⟨rfl,⟨rfl,trivial⟩⟩⟩ (preC rfl pre0) (fun y c2 hy=>?_)
  refine (hpan_then (hpan_block (hpan_then (hpan_block ?_))))
  exact lex_pan (by rw [←hLj,hy];exact lexAt_long hjl hc0 om hb) rfl rfl rfl rfl rfl rfl rfl
 have hr2:=hc2;(try simp only [hcs,Int.reduceToNat] at hc2)
 refine hw_skip ?_
 refine h12 _ _ rfl ?_
 rcases hone:oneR s j with e | ⟨x,q⟩
 ·skip
  refine hd_start ?_
  refine dl 1 ty_105 ?_
  refine dm 2 ?_
  exact hd_pan (xs:=[_]) (pre:=[(9001,_)]) [(2,.v (.pt 2 0 0 0)),(3,.v (.pt 3 1 0 0)),(4,.v (.pt 4 2 0 0))] kr rfl (sign_h _ 3 s j hs hj) ⟨rfl,trivial⟩ (preC rfl pre0) kr kr kr (tk_cons rfl (tk_cons rfl (tk_cons rfl tk_nil))) kr (fun r kp c' h=>by rcases h with ⟨x,hx,_⟩ | ⟨y,_,hy,_⟩;rw [hone] at hx;cases hx;cases hy) (fun x kp c' h=>by rcases h with ⟨x,hx,he,_⟩ | ⟨y,hy,he,hk⟩;cases he;injection he with he;subst he;subst hk;rw [hone] at hy;injection hy with hy;(repeat (first | with_reducible refine hpan_then ?_ | with_reducible refine hpan_block ?_));exact lex_pan (by rw [←hLj,←hy];exact lexAt_err hjl hc0 om hone) rfl rfl rfl rfl rfl rfl rfl)
 ·skip
  refine hd_start ?_
  refine dl 1 ty_105 ?_
  refine dm 2 ?_
  refine hd_m 52 (hop_funD (xs:=[_]) (pre:=[(9001,_)]) (sign_d 3 s j hs hj hone) (clocks_cons (.head _) rfl clocks_nil) ⟨rfl,trivial⟩) rfl rfl (preC rfl pre0) rfl rfl (k':=3) rfl ?_
  refine hd_1 53 (hop_buildSlice (id:=53) (hs:=[_]) ei_105 (nb rfl) rfl (nb rfl) ⟨rfl,rfl,rfl,rfl,trivial⟩) rfl rfl pre0 rfl rfl (k':=4) rfl ?_
  refine hd_1 54 (hol_append ei_105 (nb rfl) rfl om (nb rfl) (srl_os0 rfl (nb rfl)) om rfl) rfl rfl (preC rfl (pre1 rfl)) rfl rfl (k':=5) rfl ?_
  refine hd_s1 (hol_storeW ty_105 rfl rfl rfl rfl) rfl rfl (pre1 rfl) (k':=6) rfl ?_
  refine hd_nil kr kr (c':=c+6) rfl ?_
  refine hq_block ?_
  have hq:=oneR_le hone
  exact hL4 ((q,out++[x],c+4,n+1)) _ _ (by (try dsimp only);exact ⟨hq.2,by rw [List.length_append];show out.length+1≤200;omega,by rw [List.length_append,hn];rfl,by rw [←lexAt_go hjl hc0 om hone];exact hLj⟩) (by (try dsimp only);omega) (hsub_of rfl (Nat.le_refl _) tsa (hsr rfl (hsr rfl (hsr rfl (hsr rfl (HpSub.cons rfl (OSub.of fun i j hi hj=>sb_cat (l:=out) (k:=[x]) (enc:=sgF) (d:=default) hn (fun i j _ _=>.refl _) (sb_one (x:=x) (enc:=sgF) (d:=default) (fun j hj=>by match j,hj with | 0,_=>exact .refl _ | 1,_=>exact .refl _ | 2,_=>exact .refl _ | 3,_=>exact .refl _ | 4,_=>exact .refl _)) i j (by rw [List.length_append,←hn];exact hi) hj) HpSub.nil))))))
@[reducible] def kidsF (l:List Int):Nat→Nat→HV:=fun i _=>intV (l.getD i 0)
@[reducible] def kidsV (l:List Int):HV:=.sl 1 l.length (kidsF l)
@[reducible] def ptF (x:Pt):Nat→HV:=fun j=>match j with | 0=>intV x.kind | 1=>intV x.low | 2=>intV x.high | 3=>strV x.name | _=>kidsV x.kids
@[reducible] def ptH (x:Pt):HV:=.agg 5 (ptF x)
@[reducible] def ptsF (l:List Pt):Nat→Nat→HV:=fun i=>ptF (l.getD i default)
@[reducible] def ptsV (l:List Pt):HV:=.sl 5 l.length (ptsF l)
@[reducible] def ptsO (g:Nat) (l:List Pt):HObj:=⟨g,l.length,5,29,0,ptsF l⟩
@[reducible] def erF (l:List Sg) (p g2 n:Nat) (b:Bool):Nat→Nat→HV:=fun _ j=>match j with | 0=>sgsV l | 1=>intV p | 2=>.os 9002 g2 0 n | _=>boolV b
@[reducible] def erO (g:Nat) (l:List Sg) (p g2 n:Nat) (b:Bool):HObj:=⟨g,1,4,112,0,erF l p g2 n b⟩
theorem pt_fz {sh:List (Nat×HObj)} (x:Pt) (j:Nat):Fz sh (ptF x j) (ptF x j):=by
 match j with
 | 0=>exact .imm _
 | 1=>exact .imm _
 | 2=>exact .imm _
 | 3=>exact .imm _
 | j+4=>exact .sl _ _ _ _ fun i j _ _=>.imm _
instance frz_sgsV (l:List Sg):Frz (sgsV l):=⟨.sl _ _ _ _ fun i j _ _=>sg_fz _ j⟩
instance frz_kidsV (l:List Int):Frz (kidsV l):=⟨.sl _ _ _ _ fun i j _ _=>.imm _⟩
instance frz_ptsV (l:List Pt):Frz (ptsV l):=⟨.sl _ _ _ _ fun i j _ _=>pt_fz _ j⟩
theorem okz_pts {kp sh:List (Nat×HObj)} {g:Nat} {l:List Pt}:OKz kp sh (ptsO g l) (ptsO g l):=.of fun i j _ _=>.fz _ _ (pt_fz _ j)
theorem sb_pt {x:Pt} {f:Nat→HV} (h0:Sb (f 0) (ptF x 0)) (h1:Sb (f 1) (ptF x 1)) (h2:Sb (f 2) (ptF x 2)) (h3:Sb (f 3) (ptF x 3)) (h4:Sb (f 4) (ptF x 4)):∀ j,j < 5→Sb (f j) (ptF x j):=fun j hj=>by
 match j,hj with
 | 0,_=>exact h0
 | 1,_=>exact h1
 | 2,_=>exact h2
 | 3,_=>exact h3
 | 4,_=>exact h4
theorem okz_er {kp sh:List (Nat×HObj)} {g p g2 n:Nat} {l:List Sg} {b:Bool} {o:HObj} (h:hget kp 9002=some o) (hg:o.g=g2):OKz kp sh (erO g l p g2 n b) (erO g l p g2 n b):=okz4 (.fz _ _ (show Fz sh (sgsV l) (sgsV l) from Frz.fz)) (.fz _ _ (.imm _)) (.os _ _ _ _ _ h hg) (.fz _ _ (.imm _))
theorem osub4 {g ty fl:Nat} {f f':Nat→Nat→HV} (h0:Sb (f 0 0) (f' 0 0)) (h1:Sb (f 0 1) (f' 0 1)) (h2:Sb (f 0 2) (f' 0 2)) (h3:Sb (f 0 3) (f' 0 3)) (hfn:fl≤1:=by exact Nat.zero_le _):OSub ⟨g,1,4,ty,fl,f⟩ ⟨g,1,4,ty,fl,f'⟩:=.of (hfn:=hfn) fun i j hi hj=>by
 obtain rfl:i=0:=by omega
 match j,hj with | 0,_=>exact h0 | 1,_=>exact h1 | 2,_=>exact h2 | 3,_=>exact h3
theorem osub_snoc {α:Type} {enc:α→Nat→HV} {d x:α} {out:List α} {g n sz ty:Nat} {f F:Nat→Nat→HV} (hn:n=out.length) (hF:∀ i j,i < out.length→j < sz→Sb (F i j) (enc (out.getD i d) j)) (h:∀ j,j < sz→Sb (f 0 j) (enc x j)) :
  OSub ⟨g,n+1,sz,ty,0,cat n F f⟩ ⟨g,(out++[x]).length,sz,ty,0,fun i=>enc ((out++[x]).getD i d)⟩:=by
 subst hn
 refine ⟨rfl,by simp,rfl,rfl,Nat.le_refl _,fun i j hi hj=>?_,fun h=>absurd h (Nat.not_lt_zero _)⟩
 exact sb_cat (l:=out) (k:=[x]) (enc:=enc) (d:=d) rfl hF (sb_one (x:=x) (enc:=enc) (d:=d) h) i j (by rw [List.length_append];exact hi) hj
theorem sb_os {id g lo n n':Nat} (h:n=n'):Sb (.os id g lo n) (.os id g lo n'):=by subst h;exact .refl _
theorem kind_h (g:Nat) (l:List Sg) (p g2:Nat) (out:List Pt) (b:Bool) (hl:l.length≤1000) (hp:p≤l.length):HFunD Tryz.prog 86 [.pt 9001 g 0 0] [(9001,erO g l p g2 out.length b),(9002,ptsO g2 out)] (intV (kd l p)) [(9001,erO g l p g2 out.length b),(9002,ptsO g2 out)]:=by
 intro c
 refine hfun_of Tryz.func86 rfl kr _ _ _ _ rfl 24 rfl rfl (fun X ok hX=>?_)
 refine srg fun N h1=>sa<|snl h1<|hw_seq fun Nh2 h2=>hw_seq fun Nh3 h3=>hd_start ?_
 refine dm 1 ?_
 refine dk 2 ?_
 refine df 3 fd_110_1 ?_
 refine dl 4 ty_3 ?_
 refine dm 5 ?_
 refine dk 6 ?_
 refine df 7 fd_110_0 ?_
 refine dl 8 ty_105 ?_
 refine d0 9 (hnl el_105) ?_
 refine d0 10 hli ?_
 refine hd_nil kr kr (c':=c+10) rfl ?_
 refine h3 _ ?_
 refine wc (fun hc0=>?_) (fun hc0=>?_)
 ·have hr0:=hc0;(try simp only [hcs,Int.reduceToNat] at hc0)
  refine hw_seq fun Nh4 h4=>hd_start ?_
  refine dm 1 ?_
  refine dk 2 ?_
  refine df 3 fd_110_0 ?_
  refine dl 4 ty_105 ?_
  refine dm 5 ?_
  refine dk 6 ?_
  refine df 7 fd_110_1 ?_
  refine dl 8 ty_3 ?_
  refine d0 9 (hix el_105) ?_
  refine d0 10 (hop_fa_fp fd_113_0 rfl (nb rfl)) ?_
  refine d0 11 (hlf ty_3) ?_
  refine d0 12 (hop_assign rfl) ?_
  refine hd_nil kr kr (c':=c+22) rfl ?_
  refine h4 _<|hw_ret<|hq_then_ret ?_
  refine hf_retR1 ok hX RetS.one rfl (rval_tmp rfl) [] rfl pre0 (()) (trivial) (by rfl) (by rfl) (by rw [kd_in (by simpa using hc0)];exact kza) ?_
  exact ⟨⟨_,rfl,okz_er rfl rfl⟩,⟨⟨_,rfl,okz_pts⟩,trivial⟩⟩
 have hr0:=hc0;(try simp only [hcs,Int.reduceToNat] at hc0)
 refine hw_skip<|h2 _<|srg fun N h5=>sa<|snl h5<|hw_ret ?_
 refine hf_retR1 ok hX RetS.one rfl (rval_tmp rfl) [] rfl pre0 (()) (trivial) (by rfl) (by rfl) (by rw [kd_out (by simpa using hc0)];exact kza) ?_
 exact ⟨⟨_,rfl,okz_er rfl rfl⟩,⟨⟨_,rfl,okz_pts⟩,trivial⟩⟩
theorem lay_h (c g:Nat) (l:List Sg) (p g2 n:Nat) (b:Bool) (out:List Pt) (x:Pt) (hn:n=out.length) (ho:out.length≤100000):HFun Tryz.prog 102 c [.pt 9001 g 0 0,ptH x] [(9001,erO g l p g2 n b),(9002,ptsO g2 out)]
  (RetP (fun (g':Nat) _=>True) (fun _=>intV out.length) (fun g'=>[(9001,erO g l p g' (out++[x]).length b),(9002,ptsO g' (out++[x]))])):=by
 subst hn
 refine hfun_of Tryz.func102 rfl kr _ _ _ _ rfl 21 rfl rfl (fun X ok hX=>?_)
 refine srg fun N h1=>?_
 refine hm_1 3 (hop_box (id:=3) (sz:=5) rfl rfl rfl (nb rfl) (nb rfl)) rfl rfl pre0 rfl rfl (c':=c+1) rfl ?_
 refine sa<|snl h1<|hw_seq fun Nh2 h2=>hd_start ?_
 refine dm 1 ?_
 refine dm 2 ?_
 refine dk 3 ?_
 refine df 4 fd_112_1 ?_
 refine dl 5 ty_24 ?_
 refine dl 6 ty_29 ?_
 refine hd_1 11 (hop_buildSlice (id:=11) (hs:=[_]) ei_24 (nb rfl) rfl (nb rfl) ⟨rfl,rfl,rfl,rfl,trivial⟩) rfl rfl pre0 rfl rfl (k':=7) rfl ?_
 refine hd_1 12 (hol_append ei_24 (nb rfl) rfl om (nb rfl) (srl_os0 rfl (nb rfl)) om rfl) rfl rfl (preC rfl (pre1 rfl)) rfl rfl (k':=8) rfl ?_
 refine dk 9 ?_
 refine df 10 fd_112_1 ?_
 refine hd_s1 (hol_store ty_24 rfl rfl rfl rfl (nb rfl) (nb rfl) (nb rfl)) rfl rfl (pre1 rfl) (k':=11) rfl ?_
 refine hd_nil kr kr (c':=c+12) rfl ?_
 refine h2 _<|hw_seq fun Nh3 h3=>?_
 refine (hsub_ob 9001 (erO g l p (c+1+7) (out++[x]).length b) rfl (by exact osub4 (.refl _) (.refl _) (sb_os (by simp)) (.refl _))).wp ?_;refine (hsub_ob 9002 (ptsO (c+1+7) (out++[x])) rfl (by exact osub_snoc (enc:=ptF) (d:=default) rfl (fun i j _ _=>.refl _) (sb_pt (.refl _) (.refl _) (.refl _) (.refl _) (.refl _)))).wp ?_
 refine hw_region<|sm ?_
 refine sn ?_
 refine sf fd_112_1 ?_
 refine sl ty_24 ?_
 refine s0 (hop_len_os (T:=24) rfl (elOf_spec el_24).1 rfl) ?_
 refine s0 (hop_subi rfl rfl rfl om (by simp <;> omega)) ?_
 refine sa<|snl h3<|hw_ret ?_
 refine hf_retR1 ok hX RetS.one rfl (rval_tmp rfl) [] rfl pre0 ((c+1+7)) (trivial) (by rfl) (by rfl) (kz_int (by simp)) ?_
 exact ⟨⟨_,rfl,okz_er rfl rfl⟩,⟨⟨_,rfl,okz_pts⟩,trivial⟩⟩
theorem many_h (c g:Nat) (l:List Sg) (p g2 n:Nat) (b:Bool) (out:List Pt) (k:Int) (ks:List Int) (hn:n=out.length) (ho:out.length≤100000):HFun Tryz.prog 87 c [.pt 9001 g 0 0,intV k,kidsV ks] [(9001,erO g l p g2 n b),(9002,ptsO g2 out)]
  (RetP (fun (y:Nat×List Pt×Int) _=>if ks.length=1 then y.2=(out,ks.getD 0 0) else y.2=(out++[⟨k,0,0,[],ks⟩],(out.length:Int))) (fun y=>intV y.2.2) (fun y=>[(9001,erO g l p y.1 y.2.1.length b),(9002,ptsO y.1 y.2.1)])):=by
 subst hn
 refine hfun_of Tryz.func87 rfl kr _ _ _ _ rfl 18 rfl rfl (fun X ok hX=>?_)
 refine srg fun N h1=>sa<|snl h1<|hw_seq fun Nh2 h2=>srg fun N h3=>sm ?_
 refine s0 (hnl el_25) ?_
 refine s0 hqi ?_
 refine snl h3 ?_
 refine wc (fun hc0=>?_) (fun hc0=>?_)
 ·have hr0:=hc0;(try simp only [hcs,Int.reduceToNat] at hc0)
  refine srg fun N h4=>sm ?_
  refine s0 (hix el_25) ?_
  refine s0 (hlf ty_3) ?_
  refine sa<|snl h4<|hw_ret<|hq_then_ret ?_
  refine hf_retR1 ok hX RetS.one rfl (rval_tmp rfl) [] rfl pre0 ((g2,out,ks.getD 0 0)) ((by rw [if_pos om])) (by rfl) (by rfl) (kza) ?_
  exact ⟨⟨_,rfl,okz_er rfl rfl⟩,⟨⟨_,rfl,okz_pts⟩,trivial⟩⟩
 have hr0:=hc0;(try simp only [hcs,Int.reduceToNat] at hc0)
 refine hw_skip<|h2 _<|srg fun N h5=>sm<|sm<|sm ?_
 refine s0 (hop_build (hs:=[(0,1,_),(4,1,_)]) st_29 rfl rfl ⟨rfl,rfl,rfl,rfl,rfl,⟨rfl,rfl,rfl,rfl,rfl,trivial⟩⟩) ?_
 refine (hsub_shr 16 [] rfl pre0 rfl ((show Fz [] (.agg 5 _) (ptH ⟨k,0,0,[],ks⟩) from fz_agg5 (.imm _) (.imm _) (.imm _) (.imm _) (show Fz [] (kidsV ks) (kidsV ks) from Frz.fz)))).seq ?_
 refine hf_callR 17 (xs:=[_,_]) (pre:=[(9001,_),(9002,_)]) (lay_h _ g l p g2 _ b out ⟨k,0,0,[],ks⟩ rfl ho) ⟨rfl,⟨rfl,trivial⟩⟩ (preC rfl (preC rfl pre0)) rfl rfl (fun g3 c1 hx1=>?_)
 (try dsimp only)
 refine sa<|snl h5<|hw_ret ?_
 refine hf_retR1 ok hX RetS.one rfl (rval_tmp rfl) [] rfl pre0 ((g3,out++[⟨k,0,0,[],ks⟩],(out.length:Int))) ((by rw [if_neg om])) (by rfl) (by rfl) (kza) ?_
 exact ⟨⟨_,rfl,okz_er rfl rfl⟩,⟨⟨_,rfl,okz_pts⟩,trivial⟩⟩
structure Rs where
 t:Option T
 q:Nat
 g:Nat
 out:List Pt
 ret:Int
def RsOk (l:List Sg) (v p:Nat) (out:List Pt) (x:Rs):Prop:=match x.t with
 | some t=>Seg l v p x.q t∧x.out=out++T.flat out.length t∧x.ret=T.root out.length t∧(2≤v→kd l x.q≠1∧kd l x.q≠2)∧(3≤v→kd l x.q≠4)
 | none=>BadS l p x.q∧x.out.length≤out.length+2 * (x.q - p)
@[reducible] def RsP (l:List Sg) (v p:Nat) (out:List Pt) (g:Nat):HEnd→List (Nat×HObj)→Nat→Prop :=
 RetP (fun (x:Rs) _=>RsOk l v p out x) (fun x=>intV x.ret) (fun x=>[(9001,erO g l x.q x.g x.out.length x.t.isNone),(9002,ptsO x.g x.out)])
@[reducible] def RsC (f:FuncId) (l:List Sg) (v g p:Nat):Prop:=∀ c g2 (out:List Pt),out.length≤2 * p→HFun Tryz.prog f c [.pt 9001 g 0 0] [(9001,erO g l p g2 out.length false),(9002,ptsO g2 out)] (RsP l v p out g)
theorem rs_le {l:List Sg} {v p:Nat} {out:List Pt} {x:Rs} (h:RsOk l v p out x):p≤x.q∧x.q≤l.length∧x.out.length≤out.length+2 * (x.q - p):=by
  obtain ⟨t,q,g,o,r⟩:=x
  cases t with
  | none=>exact ⟨h.1.le,h.1.len,h.2⟩
  | some t =>
    obtain ⟨h1,h2,_⟩:=h
    have a:=seg_lt h1;have b:=seg_size h1
    simp only at h2 a b ⊢
    subst h2
    rw [List.length_append,T.flat_len]
    omega
theorem ok_name {l:List Sg} {p g:Nat} {out:List Pt} (h:kd l p=1) (h5:kd l (p+1)≠5):RsOk l 1 p out ⟨some (.name (l.getD p default).name),p+1,g,out++[⟨1,0,0,(l.getD p default).name,[]⟩],out.length⟩ :=
 ⟨.item _ _ _ (.name p h) h5,by simp [T.flat],by simp [T.root,T.size],fun h=>absurd h (by decide),fun h=>absurd h (by decide)⟩
theorem ok_name5 {l:List Sg} {p g:Nat} {out:List Pt} (h:kd l p=1) (h5:kd l (p+1)=5):RsOk l 1 p out ⟨some (.times (l.getD (p+1) default).low (l.getD (p+1) default).high (.name (l.getD p default).name)),p+2,g,out++[⟨1,0,0,(l.getD p default).name,[]⟩]++[⟨4,(l.getD (p+1) default).low,(l.getD (p+1) default).high,[],[(out.length:Int)]⟩],(out++[(⟨1,0,0,(l.getD p default).name,[]⟩:Pt)]).length⟩ :=
 ⟨.times _ _ _ (.name p h) h5,by simp [T.flat,T.size],by simp [T.root,T.size];omega,fun h=>absurd h (by decide),fun h=>absurd h (by decide)⟩
theorem ok_group {l:List Sg} {p q g:Nat} {out o:List Pt} {r:Int} {t:T} (hx:RsOk l 3 (p+1) out ⟨some t,q,g,o,r⟩) (h:kd l p=2) (h3:kd l q=3) (h5:kd l (q+1)≠5):RsOk l 1 p out ⟨some t,q+1,g,o,r⟩ :=
 ⟨.item _ _ _ (.group p q t h hx.1 h3) h5,hx.2.1,hx.2.2.1,fun h=>absurd h (by decide),fun h=>absurd h (by decide)⟩
theorem ok_group5 {l:List Sg} {p q g g':Nat} {out o:List Pt} {r:Int} {t:T} (hx:RsOk l 3 (p+1) out ⟨some t,q,g,o,r⟩) (h:kd l p=2) (h3:kd l q=3) (h5:kd l (q+1)=5):RsOk l 1 p out ⟨some (.times (l.getD (q+1) default).low (l.getD (q+1) default).high t),q+2,g',o++[⟨4,(l.getD (q+1) default).low,(l.getD (q+1) default).high,[],[r]⟩],o.length⟩:=by
 obtain ⟨h1,h2,h4,_⟩:=hx
 simp only at h2 h4
 refine ⟨.times _ _ _ (.group p q t h h1 h3) h5,?_,?_,fun h=>absurd h (by decide),fun h=>absurd h (by decide)⟩
 ·simp only [T.flat,h2,h4,T.root,List.append_assoc]
 ·simp only [T.root,T.size,h2,List.length_append,T.flat_len];omega
theorem ok_bad {l:List Sg} {p q g:Nat} {out o:List Pt} {r:Int} {t:Option T} (hk:KdOk l) (hx:RsOk l 3 (p+1) out ⟨t,q,g,o,r⟩) (h:kd l p=2) (hb:t.isNone=true∨kd l q≠3):RsOk l 1 p out ⟨none,q,g,o,r⟩:=by
  have hle:=rs_le hx
  simp only at hle
  refine ⟨?_,by show o.length≤out.length+2 * (q - p);omega⟩
  cases t with
  | none=>exact bad_group h hx.1
  | some t =>
    obtain ⟨h1,_,_,h2,h4⟩:=hx
    have a:=h2 (by decide);have b:=h4 (by decide)
    exact bad_shut hk h h1 a.1 a.2 (hb.resolve_left (by simp)) b
theorem fz_one {sh:List (Nat×HObj)} {id g ty fl:Nat} {r:Int}:Fz ((id,⟨g,1,1,ty,fl,bsf [intV r]⟩)::sh) (.os id g 0 1) (kidsV [r]) :=
 fz_row (l:=[r]) (enc:=fun x _=>intV x) (d:=0) (List.mem_cons_self ..) rfl rfl (Nat.le_refl _) (fun i j hi hj=>by
  obtain rfl:i=0:=by simpa using hi
  exact .imm _)
theorem item_h (l:List Sg) (g p:Nat) (hk:KdOk l) (hne:l≠[]) (hl:l.length≤1000) (hp:p≤l.length) (hrec:∀ p',p < p'→p'≤l.length→RsC 60 l 3 g p'):RsC 101 l 1 g p:=by
 intro c g2 out ho
 refine hfun_of Tryz.func101 rfl kr _ _ _ _ rfl 113 rfl rfl (fun X ok hX=>?_)
 refine srg fun N h1=>sa<|snl h1<|srg fun N h2=>sa<|snl h2<|hw_seq fun Nh3 h3=>srg fun N h4=>sm ?_
 refine sn ?_
 refine sf fd_112_0 ?_
 refine hq_ 8 (hop_funR (xs:=[_]) (pre:=[(9001,_),(9002,_)]) (kind_h g l p g2 out false hl hp) ⟨rfl,trivial⟩) rfl rfl (preC rfl (preC rfl pre0)) rfl rfl ?_
 refine snl h4<|hw_block<|srg fun N h5=>?_
 refine s0 hqi ?_
 refine sa<|snl h5 ?_
 refine wc (fun hc0=>?_) (fun hc0=>?_)
 ·have hr0:=hc0;(try simp only [hcs,Int.reduceToNat] at hc0)
  have hlt:=kd_lt (l:=l) (i:=p) (by rw [hc0];decide)
  refine hw_seq fun Nh6 h6=>hd_start ?_
  refine dm 1 ?_
  refine dm 2 ?_
  refine dk 3 ?_
  refine df 4 fd_112_0 ?_
  refine df 5 fd_110_0 ?_
  refine dl 6 ty_105 ?_
  refine dm 7 ?_
  refine dk 8 ?_
  refine df 9 fd_112_0 ?_
  refine df 10 fd_110_1 ?_
  refine dl 11 ty_3 ?_
  refine d0 12 (hix el_105) ?_
  refine d0 13 (hop_fa_fp fd_113_4 rfl (nb rfl)) ?_
  refine d0 14 (hlf ty_9) ?_
  refine d0 15 (hop_build (hs:=[(0,1,_),(3,1,_)]) st_29 rfl rfl ⟨rfl,rfl,rfl,rfl,rfl,⟨rfl,rfl,rfl,rfl,rfl,trivial⟩⟩) ?_
  refine hd_cut kr kr kr kr (c':=c+15) rfl ?_ (by simp)
  refine (hsub_shr 29 [] rfl pre0 rfl ((show Fz [] (.agg 5 _) (ptH ⟨1,0,0,(l.getD p default).name,[]⟩) from fz_agg5 (.imm _) (.imm _) (.imm _) (.imm _) (.nil 0 1 _ (by decide) none)))).seq ?_
  refine hf_callR 30 (xs:=[_,_]) (pre:=[(9001,_),(9002,_)]) (lay_h _ g l p g2 _ false out ⟨1,0,0,(l.getD p default).name,[]⟩ rfl om) ⟨rfl,⟨rfl,trivial⟩⟩ (preC rfl (preC rfl pre0)) rfl rfl (fun g3 c1 hx1=>?_)
  (try dsimp only)
  refine sa<|snl h6<|hw_region<|sm ?_
  refine sn ?_
  refine sf fd_112_0 ?_
  refine sf fd_110_1 ?_
  refine sl ty_3 ?_
  refine s0 hai ?_
  refine sn ?_
  refine sf fd_112_0 ?_
  refine sf fd_110_1 ?_
  refine sx (c1+1) ty_3 ?_
  refine hseq_nil<|hq_block<|h3 _<|hw_seq fun Nh7 h7=>hw_seq fun Nh8 h8=>?_
  refine (hsub_ob 9001 (erO g l (p+1) g3 (out++[(⟨1,0,0,(l.getD p default).name,[]⟩:Pt)]).length false) rfl (by exact osub4 (.refl _) (sb_int om) (.refl _) (.refl _))).wp ?_
  refine hw_region<|sm ?_
  refine sn ?_
  refine sf fd_112_0 ?_
  refine hq_ 80 (hop_funR (xs:=[_]) (pre:=[(9001,_),(9002,_)]) (kind_h g l (p+1) g3 (out++[(⟨1,0,0,(l.getD p default).name,[]⟩:Pt)]) false hl om) ⟨rfl,trivial⟩) rfl rfl (preC rfl (preC rfl pre0)) rfl rfl ?_
  refine s0 hqi ?_
  refine snl h8 ?_
  refine wc (fun hc3=>?_) (fun hc3=>?_)
  ·have hr3:=hc3;(try simp only [hcs,Int.reduceToNat] at hc3)
   have hlt5:=kd_lt (l:=l) (i:=p+1) (by rw [hc3];decide)
   refine hw_seq fun Nh9 h9=>hd_start ?_
   refine dm 1 ?_
   refine dk 2 ?_
   refine df 3 fd_112_0 ?_
   refine df 4 fd_110_0 ?_
   refine dl 5 ty_105 ?_
   refine dm 6 ?_
   refine dk 7 ?_
   refine df 8 fd_112_0 ?_
   refine df 9 fd_110_1 ?_
   refine dl 10 ty_3 ?_
   refine d0 11 (hix el_105) ?_
   refine d0 12 (hop_load_fp ty_113 rfl (nb rfl) (fun h=>(by cases h))) ?_
   refine hd_1 4 (hop_alloc (id:=4) (sz:=5) zc_113 rfl rfl (nb rfl) (nb rfl)) rfl rfl pre0 rfl rfl (k':=13) rfl ?_
   refine hd_s1 (hol_storeW ty_113 rfl rfl rfl rfl) rfl rfl (pre1 rfl) (k':=14) rfl ?_
   refine hd_nil kr kr (c':=c1+15) rfl ?_
   refine h9 _<|srg fun N h10=>sm ?_
   refine sn ?_
   refine sf fd_112_0 ?_
   refine sf fd_110_1 ?_
   refine sl ty_3 ?_
   refine s0 hai ?_
   refine sn ?_
   refine sf fd_112_0 ?_
   refine sf fd_110_1 ?_
   refine sx (c1+16) ty_3 ?_
   refine snl h10 ?_
   refine (hsub_ob 9001 (erO g l (p+2) g3 (out++[(⟨1,0,0,(l.getD p default).name,[]⟩:Pt)]).length false) rfl (by exact osub4 (.refl _) (sb_int om) (.refl _) (.refl _))).wp ?_
   refine hw_region<|sm ?_
   refine sf fd_113_2 ?_
   refine sl ty_3 ?_
   refine sf fd_113_3 ?_
   refine sl ty_3 ?_
   refine sm ?_
   refine hm_1 109 (hop_buildSlice (id:=109) (hs:=[_]) ei_25 (nb rfl) rfl (nb rfl) ⟨rfl,rfl,rfl,rfl,trivial⟩) rfl rfl pre0 rfl rfl (c':=c1+17) rfl ?_
   refine s0 (hop_build (hs:=[(0,1,_),(1,1,_),(2,1,_),(4,1,_)]) st_29 rfl rfl ⟨rfl,rfl,rfl,rfl,rfl,⟨rfl,rfl,rfl,rfl,rfl,⟨rfl,rfl,rfl,rfl,rfl,⟨rfl,rfl,rfl,rfl,rfl,trivial⟩⟩⟩⟩) ?_
   refine (hsub_shr 110 [(109,_)] rfl (preC rfl pre0) rfl ((show Fz _ (.agg 5 _) (ptH ⟨4,(l.getD (p+1) default).low,(l.getD (p+1) default).high,[],[(out.length:Int)]⟩) from fz_agg5 (.imm _) (.imm _) (.imm _) (.imm _) fz_one))).seq ?_
   refine hf_callR 111 (xs:=[_,_]) (pre:=[(9001,_),(9002,_)]) (lay_h _ g l (p+2) g3 _ false (out++[(⟨1,0,0,(l.getD p default).name,[]⟩:Pt)]) ⟨4,(l.getD (p+1) default).low,(l.getD (p+1) default).high,[],[(out.length:Int)]⟩ rfl (by rw [List.length_append];show out.length+1≤_;omega)) ⟨rfl,⟨rfl,trivial⟩⟩ (preC rfl (preC rfl pre0)) rfl rfl (fun g4 c2 hx2=>?_)
   (try dsimp only)
   refine sa<|snl h7<|srg fun N h11=>sm<|sa<|snl h11<|hw_ret ?_
   refine hf_retR1 ok hX RetS.one rfl (rval_tmp rfl) [] rfl pre0 (⟨some _,_,g4,_,_⟩) (ok_name5 hc0 hc3) (by rfl) (by rfl) (kza) ?_
   exact ⟨⟨_,rfl,okz_er rfl rfl⟩,⟨⟨_,rfl,okz_pts⟩,trivial⟩⟩
  have hr3:=hc3;(try simp only [hcs,Int.reduceToNat] at hc3)
  refine hw_skip<|h7 _<|srg fun N h12=>sm<|sa<|snl h12<|hw_ret ?_
  refine hf_retR1 ok hX RetS.one rfl (rval_tmp rfl) [] rfl pre0 (⟨some _,_,g3,_,_⟩) (ok_name hc0 hc3) (by rfl) (by rfl) (kza) ?_
  exact ⟨⟨_,rfl,okz_er rfl rfl⟩,⟨⟨_,rfl,okz_pts⟩,trivial⟩⟩
 have hr0:=hc0;(try simp only [hcs,Int.reduceToNat] at hc0)
 refine srg fun N h13=>?_
 refine s0 hqi ?_
 refine sa<|snl h13 ?_
 refine wc (fun hc1=>?_) (fun hc1=>?_)
 ·have hr1:=hc1;(try simp only [hcs,Int.reduceToNat] at hc1)
  have hlt:=kd_lt (l:=l) (i:=p) (by rw [hc1];decide)
  refine srg fun N h14=>sm ?_
  refine sn ?_
  refine sf fd_112_0 ?_
  refine sf fd_110_1 ?_
  refine sl ty_3 ?_
  refine s0 hai ?_
  refine sn ?_
  refine sf fd_112_0 ?_
  refine sf fd_110_1 ?_
  refine sx (c+1) ty_3 ?_
  refine snl h14<|hw_seq fun Nh15 h15=>?_
  refine (hsub_ob 9001 (erO g l (p+1) g2 out.length false) rfl (by exact osub4 (.refl _) (sb_int om) (.refl _) (.refl _))).wp ?_
  refine hw_region<|sm ?_
  refine hf_callR 52 (xs:=[_]) (pre:=[(9001,_),(9002,_)]) (hrec (p+1) om om _ g2 out om) ⟨rfl,trivial⟩ (preC rfl (preC rfl pre0)) rfl rfl (fun x3 c3 hx=>?_)
  obtain ⟨t,q,g3,o3,r⟩:=x3
  (try dsimp only)
  refine sa<|snl h15<|hw_seq fun Nh16 h16=>hw_seq fun Nh17 h17=>?_
  have hle:=rs_le hx;simp only at hle
  refine hw_region<|sm ?_
  refine sn ?_
  refine sf fd_112_2 ?_
  refine sl ty_4 ?_
  refine sm ?_
  refine gm 57 ?_
  refine stg 57 (fun hb=>hop_nilcheck_pt rfl) rfl rfl rfl rfl rfl ?_
  refine stg 57 (fun hb=>hop_fa fd_112_0 rfl) rfl rfl rfl rfl rfl ?_
  refine hq_g 61 4 57 false _ (fun hb=>hop_funR (xs:=[_]) (pre:=[(9001,_),(9002,_)]) (kind_h g l q g3 o3 t.isNone hl hle.2.1) ⟨rfl,trivial⟩) rfl rfl rfl rfl (preC rfl (preC rfl pre0)) rfl rfl rfl ?_
  refine stg 57 (fun hb=>hop_neq rfl rfl) rfl rfl rfl rfl rfl ?_
  refine hq_p 63 (hstep_or _ _ rfl rfl rfl) rfl rfl rfl ?_
  refine nu ?_
  refine h17 _ ?_
  refine wc (fun hc2=>?_) (fun hc2=>?_)
  ·have hr2:=hc2;(try simp only [hcs,Int.reduceToNat] at hc2)
   refine srg fun N h18=>sm ?_
   refine sn ?_
   refine sf fd_112_2 ?_
   refine sx (c3+1) ty_4 ?_
   refine snl h18<|srg fun N h19=>sm<|sa<|snl h19<|hw_ret<|hq_then_ret<|hq_block_ret<|hq_then_ret ?_
   refine hf_retR1 ok hX RetS.one rfl (rval_tmp rfl) [] rfl pre0 (⟨none,q,g3,o3,r⟩) (ok_bad hk hx hc1 hc2) (by rfl) (by rfl) (kza) ?_
   exact ⟨⟨_,rfl,okz4 (.fz _ _ (show Fz [] (sgsV l) (sgsV l) from Frz.fz)) kza kza kza⟩,⟨⟨_,rfl,okz_pts⟩,trivial⟩⟩
  have hr2:=hc2;(try simp only [hcs,Int.reduceToNat] at hc2)
  obtain ⟨tr,rfl⟩:∃ tr,t=some tr:=(by cases t with | none=>exact absurd hc2.1 (by simp) | some tr=>exact ⟨tr,rfl⟩);have hk3:=hc2.2;have hlt3:=kd_lt (l:=l) (i:=q) (by rw [hk3];decide)
  refine hw_skip<|h16 _<|hw_region<|sm ?_
  refine sn ?_
  refine sf fd_112_0 ?_
  refine sf fd_110_1 ?_
  refine sl ty_3 ?_
  refine s0 hai ?_
  refine sn ?_
  refine sf fd_112_0 ?_
  refine sf fd_110_1 ?_
  refine sx (c3+1) ty_3 ?_
  refine hseq_nil<|hq_block<|h3 _<|hw_seq fun Nh20 h20=>hw_seq fun Nh21 h21=>?_
  refine (hsub_ob 9001 (erO g l (q+1) g3 o3.length false) rfl (by exact osub4 (.refl _) (sb_int om) (.refl _) (.refl _))).wp ?_
  refine hw_region<|sm ?_
  refine sn ?_
  refine sf fd_112_0 ?_
  refine hq_ 80 (hop_funR (xs:=[_]) (pre:=[(9001,_),(9002,_)]) (kind_h g l (q+1) g3 o3 false hl om) ⟨rfl,trivial⟩) rfl rfl (preC rfl (preC rfl pre0)) rfl rfl ?_
  refine s0 hqi ?_
  refine snl h21 ?_
  refine wc (fun hc3=>?_) (fun hc3=>?_)
  ·have hr3:=hc3;(try simp only [hcs,Int.reduceToNat] at hc3)
   have hlt5:=kd_lt (l:=l) (i:=q+1) (by rw [hc3];decide)
   refine hw_seq fun Nh22 h22=>hd_start ?_
   refine dm 1 ?_
   refine dk 2 ?_
   refine df 3 fd_112_0 ?_
   refine df 4 fd_110_0 ?_
   refine dl 5 ty_105 ?_
   refine dm 6 ?_
   refine dk 7 ?_
   refine df 8 fd_112_0 ?_
   refine df 9 fd_110_1 ?_
   refine dl 10 ty_3 ?_
   refine d0 11 (hix el_105) ?_
   refine d0 12 (hop_load_fp ty_113 rfl (nb rfl) (fun h=>(by cases h))) ?_
   refine hd_1 4 (hop_alloc (id:=4) (sz:=5) zc_113 rfl rfl (nb rfl) (nb rfl)) rfl rfl pre0 rfl rfl (k':=13) rfl ?_
   refine hd_s1 (hol_storeW ty_113 rfl rfl rfl rfl) rfl rfl (pre1 rfl) (k':=14) rfl ?_
   refine hd_nil kr kr (c':=c3+15) rfl ?_
   refine h22 _<|srg fun N h23=>sm ?_
   refine sn ?_
   refine sf fd_112_0 ?_
   refine sf fd_110_1 ?_
   refine sl ty_3 ?_
   refine s0 hai ?_
   refine sn ?_
   refine sf fd_112_0 ?_
   refine sf fd_110_1 ?_
   refine sx (c3+16) ty_3 ?_
   refine snl h23 ?_
   refine (hsub_ob 9001 (erO g l (q+2) g3 o3.length false) rfl (by exact osub4 (.refl _) (sb_int om) (.refl _) (.refl _))).wp ?_
   refine hw_region<|sm ?_
   refine sf fd_113_2 ?_
   refine sl ty_3 ?_
   refine sf fd_113_3 ?_
   refine sl ty_3 ?_
   refine sm ?_
   refine hm_1 109 (hop_buildSlice (id:=109) (hs:=[_]) ei_25 (nb rfl) rfl (nb rfl) ⟨rfl,rfl,rfl,rfl,trivial⟩) rfl rfl pre0 rfl rfl (c':=c3+17) rfl ?_
   refine s0 (hop_build (hs:=[(0,1,_),(1,1,_),(2,1,_),(4,1,_)]) st_29 rfl rfl ⟨rfl,rfl,rfl,rfl,rfl,⟨rfl,rfl,rfl,rfl,rfl,⟨rfl,rfl,rfl,rfl,rfl,⟨rfl,rfl,rfl,rfl,rfl,trivial⟩⟩⟩⟩) ?_
   refine (hsub_shr 110 [(109,_)] rfl (preC rfl pre0) rfl ((show Fz _ (.agg 5 _) (ptH ⟨4,(l.getD (q+1) default).low,(l.getD (q+1) default).high,[],[r]⟩) from fz_agg5 (.imm _) (.imm _) (.imm _) (.imm _) fz_one))).seq ?_
   refine hf_callR 111 (xs:=[_,_]) (pre:=[(9001,_),(9002,_)]) (lay_h _ g l (q+2) g3 _ false o3 ⟨4,(l.getD (q+1) default).low,(l.getD (q+1) default).high,[],[r]⟩ rfl om) ⟨rfl,⟨rfl,trivial⟩⟩ (preC rfl (preC rfl pre0)) rfl rfl (fun g4 c4 hx4=>?_)
   (try dsimp only)
   refine sa<|snl h20<|srg fun N h24=>sm<|sa<|snl h24<|hw_ret ?_
   refine hf_retR1 ok hX RetS.one rfl (rval_tmp rfl) [] rfl pre0 (⟨some _,_,g4,_,_⟩) (ok_group5 hx hc1 hk3 hc3) (by rfl) (by rfl) (kza) ?_
   exact ⟨⟨_,rfl,okz_er rfl rfl⟩,⟨⟨_,rfl,okz_pts⟩,trivial⟩⟩
  have hr3:=hc3;(try simp only [hcs,Int.reduceToNat] at hc3)
  refine hw_skip<|h20 _<|srg fun N h25=>sm<|sa<|snl h25<|hw_ret ?_
  refine hf_retR1 ok hX RetS.one rfl (rval_tmp rfl) [] rfl pre0 (⟨some _,_,g3,_,_⟩) (ok_group hx hc1 hk3 hc3) (by rfl) (by rfl) (kza) ?_
  exact ⟨⟨_,rfl,okz_er rfl rfl⟩,⟨⟨_,rfl,okz_pts⟩,trivial⟩⟩
 have hr1:=hc1;(try simp only [hcs,Int.reduceToNat] at hc1)
 refine srg fun N h26=>sm ?_
 refine sn ?_
 refine sf fd_112_2 ?_
 refine sx (c+1) ty_4 ?_
 refine snl h26<|srg fun N h27=>sm<|sa<|snl h27<|hw_ret<|hq_block_ret<|hq_then_ret ?_
 refine hf_retR1 ok hX RetS.one rfl (rval_tmp rfl) [] rfl pre0 (⟨none,p,g2,out,-1⟩) (⟨bad_first hne hp hc0 hc1,by simp⟩) (by rfl) (by rfl) (kza) ?_
 exact ⟨⟨_,rfl,okz4 (.fz _ _ (show Fz [] (sgsV l) (sgsV l) from Frz.fz)) kza kza kza⟩,⟨⟨_,rfl,okz_pts⟩,trivial⟩⟩
def RowI (l:List Sg) (p:Nat) (out:List Pt) (bad:Bool) (q:Nat) (o:List Pt) (ks:List Int):Prop :=
 (1≤ks.length∧ks.length≤2 * (q - p)+1)∧p≤q∧q≤l.length∧match bad with
 | true=>BadS l p q∧o.length+(if ks.length=1 then 0 else 1)≤out.length+2 * (q - p)
 | false=>∃ ts,Items l p q ts∧o=out++T.flatL out.length ts∧ks=rootsL out.length ts
theorem row_start {l:List Sg} {p q g:Nat} {out o:List Pt} {t:Option T} {r:Int} (h:RsOk l 1 p out ⟨t,q,g,o,r⟩):RowI l p out t.isNone q o [r]:=by
 have hle:=rs_le h
 refine ⟨⟨Nat.le_refl _,by show 1≤_;omega⟩,hle.1,hle.2.1,?_⟩
 cases t with
 | none=>exact ⟨h.1,h.2⟩
 | some t=>exact ⟨[t],items_one h.1,by rw [show o=_ from h.2.1];simp [T.flatL],by rw [show r=_ from h.2.2.1];rfl⟩
theorem row_next {l:List Sg} {p q q' g:Nat} {out o o':List Pt} {ks:List Int} {t:Option T} {r:Int} (h:RowI l p out false q o ks) (hk:kd l q=1∨kd l q=2) (h2:RsOk l 1 q o ⟨t,q',g,o',r⟩):RowI l p out t.isNone q' o' (ks++[r]):=by
  have hle:q≤q'∧q'≤l.length∧o'.length≤o.length+2 * (q' - q):=rs_le h2
  obtain ⟨h1,hpq,hql,ts,hi,ho,hks⟩:=h
  have hlt:=items_lt hi
  have hol:o.length=out.length+T.sizeL ts:=by rw [ho,List.length_append,T.flatL_len]
  have hkl:ks.length=ts.length:=by rw [hks,rootsL_len]
  refine ⟨by rw [List.length_append];show 1≤ks.length+1∧ks.length+1≤_;omega,by omega,hle.2.1,?_⟩
  cases t with
  | none =>
    refine ⟨bad_items hi hk h2.1,?_⟩
    rw [if_neg (by rw [List.length_append];show ¬ ks.length+1=1;omega)]
    have:=hi.1
    omega
  | some t =>
    refine ⟨ts++[t],items_snoc hi h2.1,?_,?_⟩
    · rw [show o'=_ from h2.2.1,ho,T.flatL_snoc,List.append_assoc,List.length_append,T.flatL_len]
    · rw [show r=_ from h2.2.2.1,hks,rootsL_snoc,hol]
theorem row_le {l:List Sg} {p q:Nat} {out o:List Pt} {ks:List Int} {bad:Bool} (h:RowI l p out bad q o ks):o.length≤out.length+2 * (q - p):=by
  obtain ⟨h1,hpq,hql,h⟩:=h
  cases bad with
  | true=>have:=h.2;omega
  | false =>
    obtain ⟨ts,hi,ho,hks⟩:=h
    have:=items_lt hi
    rw [ho,List.length_append,T.flatL_len];omega
theorem rs_meas {l:List Sg} {v q q' g:Nat} {o o':List Pt} {t:Option T} {r:Int} (h:RsOk l v q o ⟨t,q',g,o',r⟩):2 * (l.length - q')+(if t.isNone then 0 else 1) < 2 * (l.length - q)+(if false then 0 else 1):=by
 have hle:q≤q'∧q'≤l.length∧o'.length≤o.length+2 * (q' - q):=rs_le h
 cases t with
 | none=>show _+0 < _+1;omega
 | some t=>have:=seg_lt h.1;show _+1 < _+1;simp only at this;omega
@[reducible] def manyP (k:Int) (out:List Pt) (ks:List Int) (y:Nat×List Pt×Int):Prop:=if ks.length=1 then y.2=(out,ks.getD 0 0) else y.2=(out++[⟨k,0,0,[],ks⟩],(out.length:Int))
theorem many_le {l:List Sg} {p q:Nat} {out o:List Pt} {ks:List Int} {k:Int} {y:Nat×List Pt×Int} (hb:o.length+(if ks.length=1 then 0 else 1)≤out.length+2 * (q - p)) (hy:manyP k o ks y):y.2.1.length≤out.length+2 * (q - p):=by
 unfold manyP at hy
 split at hy
 ·rename_i h1;rw [if_pos h1] at hb;rw [hy];exact hb
 ·rename_i h1;rw [if_neg h1] at hb;rw [hy];simpa using hb
theorem row_done {l:List Sg} {p q:Nat} {out o:List Pt} {ks:List Int} {bad:Bool} (h:RowI l p out bad q o ks) (hk:bad=true∨(kd l q≠1∧kd l q≠2)):∃ tt:Option T,tt.isNone=bad∧∀ y,manyP 2 o ks y→RsOk l 2 p out ⟨tt,q,y.1,y.2.1,y.2.2⟩:=by
  obtain ⟨h1,hpq,hql,h⟩:=h
  cases bad with
  | true=>exact ⟨none,rfl,fun y hy=>⟨h.1,many_le (l:=l) h.2 hy⟩⟩
  | false =>
    obtain ⟨ts,hi,ho,hks⟩:=h
    have hk:=hk.resolve_left (by simp)
    have hkl:ks.length=ts.length:=by rw [hks,rootsL_len]
    by_cases h2:ts.length=1
    · match ts, h2 with
      | [t], _ =>
        refine ⟨some t,rfl,fun y hy=>?_⟩
        have hy:y.2=(o,ks.getD 0 0):=by unfold manyP at hy;rwa [if_pos (by simpa using hkl)] at hy
        refine ⟨items_row1 hi,?_,?_,fun _=>hk,fun h=>absurd h (by decide)⟩
        · show y.2.1=_;rw [hy,ho];simp [T.flatL]
        · show y.2.2=_;rw [hy,hks];rfl
    · refine ⟨some (.many 2 ts),rfl,fun y hy=>?_⟩
      have hy:y.2=(o++[⟨2,0,0,[],ks⟩],(o.length:Int)):=by unfold manyP at hy;rwa [if_neg (by omega)] at hy
      refine ⟨items_row hi (by have:=hi.1;omega),?_,?_,fun _=>hk,fun h=>absurd h (by decide)⟩
      · show y.2.1=_;rw [hy,ho,hks];simp [T.flat]
      · show y.2.2=_;rw [hy,ho];simp [T.root,T.size,T.flatL_len];omega
theorem row_h (l:List Sg) (g p:Nat) (hk:KdOk l) (hne:l≠[]) (hl:l.length≤1000) (hp:p≤l.length) (hitem:∀ p',p≤p'→p'≤l.length→RsC 101 l 1 g p'):RsC 85 l 2 g p:=by
 intro c g2 out ho
 refine hfun_of Tryz.func85 rfl kr _ _ _ _ rfl 34 rfl rfl (fun X ok hX=>?_)
 refine srg fun N h1=>sa<|snl h1<|srg fun N h2=>sm ?_
 refine hf_callR 5 (xs:=[_]) (pre:=[(9001,_),(9002,_)]) (hitem p (Nat.le_refl _) hp _ g2 out ho) ⟨rfl,trivial⟩ (preC rfl (preC rfl pre0)) rfl rfl (fun x1 c1 hx=>?_)
 obtain ⟨t1,q1,g3,o3,r⟩:=x1
 (try dsimp only)
 refine hm_1 6 (hop_buildSlice (id:=6) (hs:=[_]) ei_25 (nb rfl) rfl (nb rfl) ⟨rfl,rfl,rfl,rfl,trivial⟩) rfl rfl pre0 rfl rfl (c':=c1+1) rfl ?_
 refine sa<|snl h2<|hw_seq fun Nh3 h3=>hw_block ?_
 refine hw_loopc (α:=Bool×Nat×List Pt×List Int×Nat×Nat) (fun x c=>⟨34,[(0,.v (.pt 9001 g 0 0)),(3,.v (.os 6 x.2.2.2.2.2 0 x.2.2.2.1.length))],[(9001,erO g l x.2.1 x.2.2.2.2.1 x.2.2.1.length x.1),(9002,ptsO x.2.2.2.2.1 x.2.2.1),(6,⟨x.2.2.2.2.2,x.2.2.2.1.length,1,3,0,kidsF x.2.2.2.1⟩)],c⟩) (fun x=>RowI l p out x.1 x.2.1 x.2.2.1 x.2.2.2.1) (fun x=>2 * (l.length - x.2.1)+(if x.1 then 0 else 1)) ((t1.isNone,q1,o3,[r],g3,c1)) (by exact row_start hx) (hsub_of rfl (Nat.le_refl _) tsa (hsr rfl (hsr rfl (HpSub.cons rfl (OSub.of fun i j hi hj=>by obtain rfl:i=0:=om;exact .refl _) HpSub.nil)))) (fun x c hx NhL4 hL4=>?_)
 revert hx hL4;obtain ⟨bad,q,o,ks,gg,gk⟩:=x;intro hx hL4;dsimp only at hx hL4 ⊢
 obtain ⟨hq1,hq2,hq3,hR⟩:=hx
 have hI:RowI l p out bad q o ks:=⟨hq1,hq2,hq3,hR⟩;have hol:=row_le hI
 refine hw_seq fun Nh5 h5=>srg fun N h6=>sm ?_
 refine sn ?_
 refine sf fd_112_2 ?_
 refine sl ty_4 ?_
 refine s0 (hop_not rfl) ?_
 refine sm ?_
 refine gm 12 ?_
 refine stg 12 (fun hb=>hop_nilcheck_pt rfl) rfl rfl rfl rfl rfl ?_
 refine stg 12 (fun hb=>hop_fa fd_112_0 rfl) rfl rfl rfl rfl rfl ?_
 refine hq_g 16 5 12 true _ (fun hb=>hop_funR (xs:=[_]) (pre:=[(9001,_),(9002,_)]) (kind_h g l q gg o bad hl hI.2.2.1) ⟨rfl,trivial⟩) rfl rfl rfl rfl (preC rfl (preC rfl pre0)) rfl rfl rfl ?_
 refine stg 12 (fun hb=>hop_eql rfl rfl) rfl rfl rfl rfl rfl ?_
 refine gm 12 ?_
 refine hq_g3 19 11 18 12 true false _ _ (fun hb hb2=>hop_move rfl) rfl rfl rfl rfl rfl pre0 rfl rfl rfl ?_
 refine hq_g3 20 11 18 12 true false _ _ (fun hb hb2=>hop_nilcheck_pt rfl) rfl rfl rfl rfl rfl pre0 rfl rfl rfl ?_
 refine hq_g3 21 11 18 12 true false _ _ (fun hb hb2=>hop_fa fd_112_0 rfl) rfl rfl rfl rfl rfl pre0 rfl rfl rfl ?_
 refine hq_g3 22 11 18 12 true false _ _ (fun hb hb2=>hop_funR (xs:=[_]) (pre:=[(9001,_),(9002,_)]) (kind_h g l q gg o bad hl hI.2.2.1) ⟨rfl,trivial⟩) rfl rfl rfl rfl rfl (preC rfl (preC rfl pre0)) rfl rfl rfl ?_
 refine hq_g3 23 11 18 12 true false _ _ (fun hb hb2=>hop_eql rfl rfl) rfl rfl rfl rfl rfl pre0 rfl rfl rfl ?_
 refine hq_pg 24 (hstep_org (gi:=5) (j:=12) _ _ rfl rfl rfl rfl) rfl rfl rfl rfl ?_
 refine hq_p 25 (hstep_and _ _ rfl rfl rfl) rfl rfl rfl ?_
 refine nu ?_
 refine h6 _ ?_
 refine wc (fun hc0=>?_) (fun hc0=>?_)
 ·have hr0:=hc0;(try simp only [hcs,Int.reduceToNat] at hc0)
  obtain ⟨rfl,hkq⟩:bad=false∧(kd l q=1∨kd l q=2):=(by cases bad with | true=>exact absurd hr0 (by simp) | false=>exact ⟨rfl,by simpa using hr0⟩)
  refine hw_skip<|h5 _<|hw_block<|hw_region<|sm<|sm ?_
  refine hf_callR 28 (xs:=[_]) (pre:=[(9001,_),(9002,_)]) (hitem q hI.2.1 hI.2.2.1 _ gg o om) ⟨rfl,trivial⟩ (preC rfl (preC rfl pre0)) rfl rfl (fun x2 c2 hx2=>?_)
  obtain ⟨t,q',g4,o4,r'⟩:=x2
  (try dsimp only)
  refine hm_1 29 (hop_buildSlice (id:=29) (hs:=[_]) ei_25 (nb rfl) rfl (nb rfl) ⟨rfl,rfl,rfl,rfl,trivial⟩) rfl rfl pre0 rfl rfl (c':=c2+1) rfl ?_
  refine hm_1 30 (hol_append ei_25 (nb rfl) rfl om (nb rfl) (srl_os0 rfl (nb rfl)) om rfl) rfl rfl (preC rfl (pre1 rfl)) rfl rfl (c':=c2+2) rfl ?_
  refine sa<|hseq_nil<|hq_block ?_
  exact hL4 ((t.isNone,q',o4,ks++[r'],g4,c2+1)) _ _ (by (try dsimp only);exact row_next hI hkq hx2) (by (try dsimp only);exact rs_meas hx2) (hsub_of rfl (Nat.le_refl _) (tsr rfl (TmSub.cons rfl (sb_os (by simp)) TmSub.nil)) (hsr rfl (hsr rfl (HpSub.cons rfl (osub_snoc (enc:=fun x _=>intV x) (d:=0) rfl (fun i j _ _=>.refl _) (fun j hj=>.refl _)) HpSub.nil))))
 have hr0:=hc0;(try simp only [hcs,Int.reduceToNat] at hc0)
 obtain ⟨tt,rfl,hdone⟩:=row_done hI (by cases bad with | true=>exact .inl rfl | false=>right;simpa using hr0)
 refine hw_exit ?_
 refine hq_then_exit<|hq_then_exit<|hq_block_here<|h3 _<|srg fun N h7=>sm<|sm ?_
 refine (hsub_shr 32 [(6,_)] rfl (preC rfl pre0) rfl ((show Fz _ _ (kidsV ks) from fz_row (l:=ks) (enc:=fun x _=>intV x) (d:=0) (List.mem_cons_self ..) rfl rfl (Nat.le_refl _) (fun i j hi hj=>.imm _)))).seq ?_
 refine hf_callR 33 (xs:=[_,_,_]) (pre:=[(9001,_),(9002,_)]) (many_h _ g l q gg _ tt.isNone o 2 ks rfl om) ⟨rfl,⟨rfl,⟨rfl,trivial⟩⟩⟩ (preC rfl (preC rfl pre0)) rfl rfl (fun x3 c3 hy=>?_)
 obtain ⟨g5,o5,r5⟩:=x3
 (try dsimp only)
 refine sa<|snl h7<|hw_ret ?_
 refine hf_retR1 ok hX RetS.one rfl (rval_tmp rfl) [] rfl pre0 (⟨tt,q,g5,o5,r5⟩) (hdone _ hy) (by rfl) (by rfl) (kza) ?_
 exact ⟨⟨_,rfl,okz_er rfl rfl⟩,⟨⟨_,rfl,okz_pts⟩,trivial⟩⟩
theorem fz_int {sh:List (Nat×HObj)} {a b:Int} (h:a=b):Fz sh (intV a) (intV b):=by subst h;exact .imm _
theorem refSmall_h (x:Int):HPure Tryz.prog 92 [.imm (.int .u8 x)] (boolV (smallZ x)):=by
 refine hpure_of Tryz.func92 rfl kr _ _ _ rfl 9 rfl rfl (fun w F=>?_)
 refine srg fun N h1=>sa<|snl h1<|srg fun N h2=>sm ?_
 refine s0 (hop_geq rfl rfl) ?_
 refine sm ?_
 refine gm 5 ?_
 refine stg 5 (fun hb=>hop_leq rfl rfl) rfl rfl rfl rfl rfl ?_
 refine hq_p 8 (hstep_and _ _ rfl rfl rfl) rfl rfl rfl ?_
 refine sa ?_
 refine nu ?_
 refine h2 _<|hw_ret ?_
 refine hq_ret1 rfl (rval_tmp rfl) [] rfl pre0 ?_
 exact Frz.fz
theorem refDigit_h (x:Int):HPure Tryz.prog 93 [.imm (.int .u8 x)] (boolV (digitZ x)):=by
 refine hpure_of Tryz.func93 rfl kr _ _ _ rfl 9 rfl rfl (fun w F=>?_)
 refine srg fun N h1=>sa<|snl h1<|srg fun N h2=>sm ?_
 refine s0 (hop_geq rfl rfl) ?_
 refine sm ?_
 refine gm 5 ?_
 refine stg 5 (fun hb=>hop_leq rfl rfl) rfl rfl rfl rfl rfl ?_
 refine hq_p 8 (hstep_and _ _ rfl rfl rfl) rfl rfl rfl ?_
 refine sa ?_
 refine nu ?_
 refine h2 _<|hw_ret ?_
 refine hq_ret1 rfl (rval_tmp rfl) [] rfl pre0 ?_
 exact Frz.fz
theorem refWrong_h (s:List UInt8) (p:Nat):HPure Tryz.prog 105 [strV s,intV p] (t2 (intV (wrongV s p).1) (intV (wrongV s p).2)):=by
 refine hpure_of Tryz.func105 rfl kr _ _ _ rfl 13 rfl rfl (fun w F=>?_)
 refine srg fun N h1=>sa<|sa<|snl h1<|hw_seq fun Nh2 h2=>srg fun N h3=>sm<|sm ?_
 refine s0 (hop_len_strl (T:=9) rfl kr rfl) ?_
 refine s0 (hop_geq rfl rfl) ?_
 refine snl h3 ?_
 refine wc (fun hc0=>?_) (fun hc0=>?_)
 ·have hr0:=hc0;(try simp only [hcs,Int.reduceToNat] at hc0)
  refine srg fun N h4=>sm ?_
  refine s0 (hop_len_strl (T:=9) rfl kr rfl) ?_
  refine sa<|sa<|snl h4<|hw_ret<|hq_then_ret ?_
  refine hq_ret2 rfl (rval_tmp rfl) (rval_tmp rfl) [] rfl pre0 ?_
  have e:wrongV s p=((s.length:Int),5):=if_pos om;rw [e];exact fz_t2 (.imm _) (.imm _)
 have hr0:=hc0;(try simp only [hcs,Int.reduceToNat] at hc0)
 refine hw_skip<|h2 _<|srg fun N h5=>sm<|sa<|sa<|snl h5<|hw_ret ?_
 refine hq_ret2 rfl (rval_tmp rfl) (rval_tmp rfl) [] rfl pre0 ?_
 have e:wrongV s p=((p:Int),2):=if_neg om;rw [e];exact fz_t2 (.imm _) (.imm _)
@[reducible] def numLH (x:Option Int×Nat):HV:=t2 (intV (x.1.getD (-1))) (intV x.2)
theorem refNumber_h (s:List UInt8) (i:Nat) (hs:s.length≤9223372036854775807) (hi:i≤s.length):HPure Tryz.prog 104 [strV s,intV i] (numLH (numL s i)):=by
 refine hpure_of Tryz.func104 rfl kr _ _ _ rfl 62 rfl rfl (fun w F=>?_)
 refine srg fun N h1=>sa<|sa<|snl h1<|hw_seq fun Nh2 h2=>srg fun N h3=>sm<|sm ?_
 refine s0 (hop_len_strl (T:=9) rfl kr rfl) ?_
 refine s0 (hop_geq rfl rfl) ?_
 refine sm ?_
 refine gm 11 ?_
 refine gm 11 ?_
 refine stg 11 (fun hb=>hop_ix_strl kr rfl rfl (by simp at hb;exact omx) (by simp at hb;exact omx)) rfl rfl rfl rfl rfl ?_
 refine stg 11 (fun hb=>hop_call0 (xs:=[_]) (refDigit_h _) ⟨rfl,trivial⟩ ⟨fe,trivial⟩) rfl rfl rfl rfl rfl ?_
 refine stg 11 (fun hb=>hop_not rfl) rfl rfl rfl rfl rfl ?_
 refine hq_p 17 (hstep_or _ _ rfl rfl rfl) rfl rfl rfl ?_
 refine nu ?_
 refine h3 _ ?_
 refine wc (fun hc0=>?_) (fun hc0=>?_)
 ·have hr0:=hc0;(try simp only [hcs,Int.reduceToNat] at hc0)
  have d0:digitZ (bz s i)=false:=(by have h:=hr0;rw [Int.toNat_natCast,bz_ndig] at h;simpa using h)
  refine srg fun N h4=>sm<|sa<|sa<|snl h4<|hw_ret<|hq_then_ret ?_
  refine hq_ret2 rfl (rval_tmp rfl) (rval_tmp rfl) [] rfl pre0 ?_
  rw [num_zero d0];exact fz_t2 (.imm _) (.imm _)
 have hr0:=hc0;(try simp only [hcs,Int.reduceToNat] at hc0)
 have d0:digitZ (bz s i)=true:=(by have h:=hr0;rw [Int.toNat_natCast,bz_ndig] at h;simpa using h);have hil:=digit_lt d0;have dz:=digit_iff.1 d0
 refine hw_skip<|h2 _<|srg fun N h5=>sm<|sm ?_
 refine s0 (HOp.val (v':=.imm (.int .u8 (bz s i))) (hop_ix_strl kr rfl rfl om om) (by rw [bz_in hil,Int.toNat_natCast])) ?_
 refine s0 (hop_subk wok_u8 rfl rfl rfl om om) ?_
 refine s0 (hop_convk wok_i64 kr kr rfl om om) ?_
 refine sa<|snl h5<|srg fun N h6=>sm ?_
 refine s0 (HOp.val (v':=intV ((i+1:Nat):Int)) hai (rfl)) ?_
 refine sa<|snl h6<|hw_seq fun Nh7 h7=>srg fun N h8=>sm<|sm ?_
 refine s0 (hop_len_strl (T:=9) rfl kr rfl) ?_
 refine s0 hli ?_
 refine sm ?_
 refine gm 30 ?_
 refine gm 30 ?_
 refine stg 30 (fun hb=>hop_ix_strl kr rfl rfl (by simp at hb;exact omx) (by simp at hb;exact omx)) rfl rfl rfl rfl rfl ?_
 refine stg 30 (fun hb=>hop_call0 (xs:=[_]) (refDigit_h _) ⟨rfl,trivial⟩ ⟨fe,trivial⟩) rfl rfl rfl rfl rfl ?_
 refine hq_p 35 (hstep_and _ _ rfl rfl rfl) rfl rfl rfl ?_
 refine nu ?_
 refine h8 _ ?_
 refine wc (fun hc1=>?_) (fun hc1=>?_)
 ·have hr1:=hc1;(try simp only [hcs,Int.reduceToNat] at hc1)
  have d1:digitZ (bz s (i+1))=true:=(by have h:=hr1;rw [Int.toNat_natCast,←bz_dig] at h;exact h);have hil2:=digit_lt d1;have dz1:=digit_iff.1 d1
  refine hw_seq fun Nh9 h9=>srg fun N h10=>sm ?_
  refine s0 hqi ?_
  refine snl h10 ?_
  refine wc (fun hc2=>?_) (fun hc2=>?_)
  ·have hr2:=hc2;(try simp only [hcs,Int.reduceToNat] at hc2)
   refine srg fun N h11=>sm<|sa<|sa<|snl h11<|hw_ret<|hq_then_ret<|hq_then_ret ?_
   refine hq_ret2 rfl (rval_tmp rfl) (rval_tmp rfl) [] rfl pre0 ?_
   have e:numL s i=(none,i+1):=(by unfold numL;rw [if_pos d0,if_pos d1,if_pos om]);rw [e];exact fz_t2 (.imm _) (.imm _)
  have hr2:=hc2;(try simp only [hcs,Int.reduceToNat] at hc2)
  refine hw_skip<|h9 _<|srg fun N h12=>sm ?_
  refine s0 (hop_muli rfl rfl rfl om om) ?_
  refine sm<|sm ?_
  refine s0 (HOp.val (v':=.imm (.int .u8 (bz s (i+1)))) (hop_ix_strl kr rfl rfl om om) (by rw [bz_in hil2,Int.toNat_natCast])) ?_
  refine s0 (hop_subk wok_u8 rfl rfl rfl om om) ?_
  refine s0 (hop_convk wok_i64 kr kr rfl om om) ?_
  refine s0 hai ?_
  refine sa<|snl h12<|srg fun N h13=>sm ?_
  refine s0 (HOp.val (v':=intV ((i+2:Nat):Int)) hai (rfl)) ?_
  refine sa<|snl h13<|srg fun N h14=>sm<|sm ?_
  refine s0 (hop_len_strl (T:=9) rfl kr rfl) ?_
  refine s0 hli ?_
  refine sm ?_
  refine gm 53 ?_
  refine gm 53 ?_
  refine stg 53 (fun hb=>hop_ix_strl kr rfl rfl (by simp at hb;exact omx) (by simp at hb;exact omx)) rfl rfl rfl rfl rfl ?_
  refine stg 53 (fun hb=>hop_call0 (xs:=[_]) (refDigit_h _) ⟨rfl,trivial⟩ ⟨fe,trivial⟩) rfl rfl rfl rfl rfl ?_
  refine hq_p 58 (hstep_and _ _ rfl rfl rfl) rfl rfl rfl ?_
  refine nu ?_
  refine h14 _ ?_
  refine wc (fun hc3=>?_) (fun hc3=>?_)
  ·have hr3:=hc3;(try simp only [hcs,Int.reduceToNat] at hc3)
   have d2:digitZ (bz s (i+2))=true:=(by have h:=hr3;rw [Int.toNat_natCast,←bz_dig] at h;exact h)
   refine srg fun N h15=>sm<|sa<|sa<|snl h15<|hw_ret<|hq_then_ret ?_
   refine hq_ret2 rfl (rval_tmp rfl) (rval_tmp rfl) [] rfl pre0 ?_
   have e:numL s i=(none,i+2):=(by unfold numL;rw [if_pos d0,if_pos d1,if_neg om,if_pos d2]);rw [e];exact fz_t2 (.imm _) (.imm _)
  have hr3:=hc3;(try simp only [hcs,Int.reduceToNat] at hc3)
  have d2:digitZ (bz s (i+2))=false:=(by have h:=hr3;rw [Int.toNat_natCast,←bz_dig] at h;exact h)
  refine hw_skip<|h7 _<|srg fun N h16=>sm<|sm<|sa<|sa<|snl h16<|hw_ret ?_
  refine hq_ret2 rfl (rval_tmp rfl) (rval_tmp rfl) [] rfl pre0 ?_
  have e:numL s i=(some (10 * (bz s i - 48)+(bz s (i+1) - 48)),i+2):=(by unfold numL;rw [if_pos d0,if_pos d1,if_neg om,if_neg (by rw [d2];decide)]);rw [e];exact fz_t2 (.imm _) (.imm _)
 have hr1:=hc1;(try simp only [hcs,Int.reduceToNat] at hc1)
 have d1:digitZ (bz s (i+1))=false:=(by have h:=hr1;rw [Int.toNat_natCast,←bz_dig] at h;exact h)
 refine hw_skip<|h7 _<|srg fun N h17=>sm<|sm<|sa<|sa<|snl h17<|hw_ret ?_
 refine hq_ret2 rfl (rval_tmp rfl) (rval_tmp rfl) [] rfl pre0 ?_
 have e:numL s i=(some (bz s i - 48),i+1):=(by unfold numL;rw [if_pos d0,if_neg (by rw [d1];decide)]);rw [e];exact fz_t2 (.imm _) (.imm _)
theorem refNum {s:List UInt8} {i:Nat} {x:Option Int×Nat} (hs:s.length≤9223372036854775807) (hi:i≤s.length) (h:numL s i=x):HPure Tryz.prog 104 [strV s,intV i] (numLH x):=h▸refNumber_h s i hs hi
@[reducible] def oneH (x:Sg×Int×Int):HV:=t3 (sgH x.1) (intV x.2.1) (intV x.2.2)
theorem refCount_h (s:List UInt8) (i:Nat) (hs:s.length≤9223372036854775807) (hi:i < s.length):HPure Tryz.prog 94 [strV s,intV i] (oneH (countF s i)):=by
 refine hpure_of Tryz.func94 rfl kr _ _ _ rfl 143 rfl rfl (fun w F=>?_)
 refine srg fun N h1=>?_
 refine hm_1 4 (hop_alloc (id:=4) (sz:=5) zc_80 rfl rfl (nb rfl) (nb rfl)) rfl rfl pre0 rfl rfl (c':=1) rfl ?_
 refine sa<|sa<|snl h1<|srg fun N h2=>sm ?_
 refine s0 (hop_build (hs:=[(0,1,_),(1,1,_)]) st_80 rfl rfl ⟨rfl,rfl,rfl,rfl,rfl,⟨rfl,rfl,rfl,rfl,rfl,trivial⟩⟩) ?_
 refine hm_1 7 (hop_alloc (id:=7) (sz:=5) zc_80 rfl rfl (nb rfl) (nb rfl)) rfl rfl pre0 rfl rfl (c':=2) rfl ?_
 refine sw (3) ty_80 ?_
 refine snl h2<|hw_seq fun Nh3 h3=>?_
 rcases hn:numL s (i+1) with ⟨_ | n,p⟩
 ·skip
  refine hw_region<|sm<|sm ?_
  refine s0 (HOp.val (v':=intV ((i+1:Nat):Int)) hai (rfl)) ?_
  refine s0 (hop_call0 (xs:=[_,_]) (refNum hs hi hn) ⟨rfl,⟨rfl,trivial⟩⟩ ⟨fe,⟨fe,trivial⟩⟩) ?_
  refine sm ?_
  refine s0 (HOp.val (v':=intV (-1)) hex (rfl)) ?_
  refine s0 (HOp.val (v':=intV p) hex (rfl)) ?_
  refine sa<|sa<|snl h3<|hw_seq fun Nh4 h4=>hw_seq fun Nh5 h5=>?_
  have hnp:=numL_le om hn
  refine hw_region<|sm ?_
  refine s0 hli ?_
  refine snl h5 ?_
  refine wc (fun hc0=>?_) (fun hc0=>?_)
  ·have hr0:=hc0;(try simp only [hcs,Int.reduceToNat] at hc0)
   refine srg fun N h6=>sm<|sm ?_
   refine s0 (hop_call0 (xs:=[_,_]) (refWrong_h s p) ⟨rfl,⟨rfl,trivial⟩⟩ ⟨fe,⟨fe,trivial⟩⟩) ?_
   refine sm ?_
   refine s0 hex ?_
   refine s0 hex ?_
   refine sa<|sa<|snl h6<|srg fun N h7=>?_
   refine sl ty_80 ?_
   refine sm<|sm ?_
   refine sw (4) ty_80 ?_
   refine sa<|sa<|snl h7<|hw_ret<|hq_then_ret ?_
   refine hq_ret3 rfl (rvl_cell rfl rfl ty_80 rqc rfl rfl) (rval_tmp rfl) (rval_tmp rfl) [] rfl pre0 ?_
   have e:countF s i=(⟨5,i,0,0,[]⟩,wrongV s p):=(by unfold countF;rw [hn]);rw [e];exact fz_t3 (fz_agg5 fzc fzc fzc fzc fzc) (.imm _) (.imm _)
  have hr0:=hc0;(try simp only [hcs,Int.reduceToNat] at hc0)
  exfalso;exact absurd hr0 (by simp)
 ·skip
  refine hw_region<|sm<|sm ?_
  refine s0 (HOp.val (v':=intV ((i+1:Nat):Int)) hai (rfl)) ?_
  refine s0 (hop_call0 (xs:=[_,_]) (refNum hs hi hn) ⟨rfl,⟨rfl,trivial⟩⟩ ⟨fe,⟨fe,trivial⟩⟩) ?_
  refine sm ?_
  refine s0 (HOp.val (v':=intV n) hex (rfl)) ?_
  refine s0 (HOp.val (v':=intV p) hex (rfl)) ?_
  refine sa<|sa<|snl h3<|hw_seq fun Nh8 h8=>hw_seq fun Nh9 h9=>?_
  have hnp:=numL_le om hn
  refine hw_region<|sm ?_
  refine s0 hli ?_
  refine snl h9 ?_
  refine wc (fun hc0=>?_) (fun hc0=>?_)
  ·have hr0:=hc0;(try simp only [hcs,Int.reduceToNat] at hc0)
   exfalso;have:=hnp.2.2 n rfl;omega
  have hr0:=hc0;(try simp only [hcs,Int.reduceToNat] at hc0)
  refine hw_skip<|h8 _<|hw_seq fun Nh10 h10=>srg fun N h11=>sm ?_
  refine s0 (hop_gtr rfl rfl) ?_
  refine sm ?_
  refine gm 41 ?_
  refine stg 41 (fun hb=>hop_eql rfl rfl) rfl rfl rfl rfl rfl ?_
  refine gm 41 ?_
  refine hq_g3 45 5 44 41 false true _ _ (fun hb hb2=>hop_move rfl) rfl rfl rfl rfl rfl pre0 rfl rfl rfl ?_
  refine hq_g3 46 5 44 41 false true _ _ (fun hb hb2=>hop_move rfl) rfl rfl rfl rfl rfl pre0 rfl rfl rfl ?_
  refine hq_g3 47 5 44 41 false true _ _ (fun hb hb2=>hop_len_strl (T:=9) rfl kr rfl) rfl rfl rfl rfl rfl pre0 rfl rfl rfl ?_
  refine hq_g3 48 5 44 41 false true _ _ (fun hb hb2=>hop_lss rfl rfl) rfl rfl rfl rfl rfl pre0 rfl rfl rfl ?_
  refine hq_pg 49 (hstep_andg (gi:=2) (j:=41) _ _ rfl rfl rfl rfl) rfl rfl rfl rfl ?_
  refine gm 41 ?_
  refine hq_g3 51 11 50 41 false true _ _ (fun hb hb2=>hop_move rfl) rfl rfl rfl rfl rfl pre0 rfl rfl rfl ?_
  refine hq_g3 52 11 50 41 false true _ _ (fun hb hb2=>hop_move rfl) rfl rfl rfl rfl rfl pre0 rfl rfl rfl ?_
  refine hq_g3 53 11 50 41 false true _ _ (fun hb hb2=>hop_ix_strl kr rfl rfl (by simp at hb;omega) (by simp at hb;omega)) rfl rfl rfl rfl rfl pre0 rfl rfl rfl ?_
  refine hq_g3 54 11 50 41 false true _ _ (fun hb hb2=>hop_eql rfl rfl) rfl rfl rfl rfl rfl pre0 rfl rfl rfl ?_
  refine hq_pg 55 (hstep_andg (gi:=2) (j:=41) _ _ rfl rfl rfl rfl) rfl rfl rfl rfl ?_
  refine hq_p 56 (hstep_or _ _ rfl rfl rfl) rfl rfl rfl ?_
  refine nu ?_
  refine h11 _ ?_
  refine wc (fun hc1=>?_) (fun hc1=>?_)
  ·have hr1:=hc1;(try simp only [hcs,Int.reduceToNat] at hc1)
   have h1:20 < n∨(n=0∧bz s p=125):=(by have h:=hr1;rw [Int.toNat_natCast,cnt_bad] at h;exact of_decide_eq_true h)
   refine srg fun N h12=>?_
   refine sl ty_80 ?_
   refine sm ?_
   refine s0 hai ?_
   refine sw (4) ty_80 ?_
   refine sa<|sa<|snl h12<|hw_ret<|hq_then_ret ?_
   refine hq_ret3 rfl (rvl_cell rfl rfl ty_80 rqc rfl rfl) (rval_tmp rfl) (rval_tmp rfl) [] rfl pre0 ?_
   have e:countF s i=(⟨5,i,0,0,[]⟩,((i+1:Nat):Int),3):=(by unfold countF;rw [hn];simp only;rw [if_pos h1]);rw [e];exact fz_t3 (fz_agg5 fzc fzc fzc fzc fzc) (.imm _) (.imm _)
  have hr1:=hc1;(try simp only [hcs,Int.reduceToNat] at hc1)
  have h1:¬ (20 < n∨(n=0∧bz s p=125)):=(by have h:=hr1;rw [Int.toNat_natCast,cnt_bad] at h;exact of_decide_eq_false h)
  refine hw_skip<|h10 _<|srg fun N h13=>sm ?_
  refine sf fd_80_2 ?_
  refine sx (4) ty_3 ?_
  refine snl h13<|srg fun N h14=>sm ?_
  refine sf fd_80_3 ?_
  refine sx (5) ty_3 ?_
  refine snl h14<|hw_seq fun Nh15 h15=>srg fun N h16=>sm<|sm ?_
  refine s0 (hop_len_strl (T:=9) rfl kr rfl) ?_
  refine s0 hli ?_
  refine sm ?_
  refine gm 68 ?_
  refine gm 68 ?_
  refine stg 68 (fun hb=>hop_ix_strl kr rfl rfl (by simp at hb;exact omx) (by simp at hb;exact omx)) rfl rfl rfl rfl rfl ?_
  refine stg 68 (fun hb=>hop_eql rfl rfl) rfl rfl rfl rfl rfl ?_
  refine hq_p 73 (hstep_and _ _ rfl rfl rfl) rfl rfl rfl ?_
  refine nu ?_
  refine h16 _ ?_
  refine wc (fun hc2=>?_) (fun hc2=>?_)
  ·have hr2:=hc2;(try simp only [hcs,Int.reduceToNat] at hc2)
   have h2:bz s p=44:=(by have h:=hr2;rw [Int.toNat_natCast,bz_eqb s p (by decide)] at h;exact of_decide_eq_true h);have hlt:=bz_lt (s:=s) (i:=p) om
   refine srg fun N h17=>sm ?_
   refine s0 (HOp.val (v':=intV ((p+1:Nat):Int)) hai (rfl)) ?_
   refine sa<|snl h17<|srg fun N h18=>?_
   refine sf fd_80_3 ?_
   refine sx (6) ty_3 ?_
   refine snl h18<|srg fun N h19=>sm<|sa<|snl h19<|srg fun N h20=>sm<|sm ?_
   refine s0 (hop_len_strl (T:=9) rfl kr rfl) ?_
   refine s0 (hop_geq rfl rfl) ?_
   refine sm ?_
   refine gm 82 ?_
   refine gm 82 ?_
   refine stg 82 (fun hb=>hop_ix_strl kr rfl rfl (by simp at hb;exact omx) (by simp at hb;exact omx)) rfl rfl rfl rfl rfl ?_
   refine stg 82 (fun hb=>hop_neq rfl rfl) rfl rfl rfl rfl rfl ?_
   refine hq_p 87 (hstep_or _ _ rfl rfl rfl) rfl rfl rfl ?_
   refine nu ?_
   refine h20 _ ?_
   refine wc (fun hc3=>?_) (fun hc3=>?_)
   ·have hr3:=hc3;(try simp only [hcs,Int.reduceToNat] at hc3)
    have h3:¬ bz s (p+1)=125:=(by have h:=hr3;rw [Int.toNat_natCast,bz_neb s (p+1) (by decide)] at h;simpa using h)
    refine hw_seq (fun Nh21 h21=>?_)
    rcases hm:numL s (p+1) with ⟨_ | m,q⟩
    ·skip
     refine hw_region<|sm<|sm ?_
     refine s0 (hop_call0 (xs:=[_,_]) (refNum hs hlt hm) ⟨rfl,⟨rfl,trivial⟩⟩ ⟨fe,⟨fe,trivial⟩⟩) ?_
     refine sm ?_
     refine s0 (HOp.val (v':=intV (-1)) hex (rfl)) ?_
     refine s0 (HOp.val (v':=intV q) hex (rfl)) ?_
     refine sa<|sa<|snl h21<|hw_seq fun Nh22 h22=>hw_seq fun Nh23 h23=>?_
     have hmq:=numL_le om hm
     refine hw_region<|sm ?_
     refine s0 hli ?_
     refine snl h23 ?_
     refine wc (fun hc4=>?_) (fun hc4=>?_)
     ·have hr4:=hc4;(try simp only [hcs,Int.reduceToNat] at hc4)
      refine srg fun N h24=>sm<|sm ?_
      refine s0 (hop_call0 (xs:=[_,_]) (refWrong_h s q) ⟨rfl,⟨rfl,trivial⟩⟩ ⟨fe,⟨fe,trivial⟩⟩) ?_
      refine sm ?_
      refine s0 hex ?_
      refine s0 hex ?_
      refine sa<|sa<|snl h24<|srg fun N h25=>?_
      refine sl ty_80 ?_
      refine sm<|sm ?_
      refine sw (7) ty_80 ?_
      refine sa<|sa<|snl h25<|hw_ret<|hq_then_ret<|hq_then_ret ?_
      refine hq_ret3 rfl (rvl_cell rfl rfl ty_80 rqc rfl rfl) (rval_tmp rfl) (rval_tmp rfl) [] rfl pre0 ?_
      have e:countF s i=(⟨5,i,n,-1,[]⟩,wrongV s q):=(by unfold countF;rw [hn];simp only;rw [if_neg h1,if_pos h2,if_neg h3,hm]);rw [e];exact fz_t3 (fz_agg5 fzc fzc fzc fzc fzc) (.imm _) (.imm _)
     have hr4:=hc4;(try simp only [hcs,Int.reduceToNat] at hc4)
     exfalso;exact absurd hr4 (by simp)
    ·skip
     refine hw_region<|sm<|sm ?_
     refine s0 (hop_call0 (xs:=[_,_]) (refNum hs hlt hm) ⟨rfl,⟨rfl,trivial⟩⟩ ⟨fe,⟨fe,trivial⟩⟩) ?_
     refine sm ?_
     refine s0 (HOp.val (v':=intV m) hex (rfl)) ?_
     refine s0 (HOp.val (v':=intV q) hex (rfl)) ?_
     refine sa<|sa<|snl h21<|hw_seq fun Nh26 h26=>hw_seq fun Nh27 h27=>?_
     have hmq:=numL_le om hm
     refine hw_region<|sm ?_
     refine s0 hli ?_
     refine snl h27 ?_
     refine wc (fun hc4=>?_) (fun hc4=>?_)
     ·have hr4:=hc4;(try simp only [hcs,Int.reduceToNat] at hc4)
      exfalso;have:=hmq.2.2 m rfl;omega
     have hr4:=hc4;(try simp only [hcs,Int.reduceToNat] at hc4)
     refine hw_skip<|h26 _<|hw_seq fun Nh28 h28=>srg fun N h29=>sm ?_
     refine s0 hli ?_
     refine sm ?_
     refine gm 107 ?_
     refine stg 107 (fun hb=>hop_gtr rfl rfl) rfl rfl rfl rfl rfl ?_
     refine hq_p 110 (hstep_or _ _ rfl rfl rfl) rfl rfl rfl ?_
     refine sm ?_
     refine gm 111 ?_
     refine gm 111 ?_
     refine stg 111 (fun hb=>hop_lss rfl rfl) rfl rfl rfl rfl rfl ?_
     refine hq_p 115 (hstep_or _ _ rfl rfl rfl) rfl rfl rfl ?_
     refine nu ?_
     refine h29 _ ?_
     refine wc (fun hc5=>?_) (fun hc5=>?_)
     ·have hr5:=hc5;(try simp only [hcs,Int.reduceToNat] at hc5)
      have h5:m < 1∨20 < m∨m < n:=(by have h:=hr5;simp only [Bool.or_eq_true,decide_eq_true_eq] at h;omega)
      refine srg fun N h30=>?_
      refine sl ty_80 ?_
      refine sm ?_
      refine sw (7) ty_80 ?_
      refine sa<|sa<|snl h30<|hw_ret<|hq_then_ret<|hq_then_ret ?_
      refine hq_ret3 rfl (rvl_cell rfl rfl ty_80 rqc rfl rfl) (rval_tmp rfl) (rval_tmp rfl) [] rfl pre0 ?_
      have e:countF s i=(⟨5,i,n,-1,[]⟩,((p+1:Nat):Int),3):=(by unfold countF;rw [hn];simp only;rw [if_neg h1,if_pos h2,if_neg h3,hm];simp only;rw [if_pos h5]);rw [e];exact fz_t3 (fz_agg5 fzc fzc fzc fzc fzc) (.imm _) (.imm _)
     have hr5:=hc5;(try simp only [hcs,Int.reduceToNat] at hc5)
     have h5:¬ (m < 1∨20 < m∨m < n):=(by have h:=hr5;simp only [Bool.or_eq_false_iff,decide_eq_false_iff_not] at h;omega)
     refine hw_skip<|h28 _<|srg fun N h31=>sm ?_
     refine sf fd_80_3 ?_
     refine sx (7) ty_3 ?_
     refine snl h31<|hw_region<|sm<|sa<|snl h15<|hw_seq fun Nh32 h32=>srg fun N h33=>sm<|sm ?_
     refine s0 (hop_len_strl (T:=9) rfl kr rfl) ?_
     refine s0 (hop_geq rfl rfl) ?_
     refine sm ?_
     refine gm 125 ?_
     refine gm 125 ?_
     refine stg 125 (fun hb=>hop_ix_strl kr rfl rfl (by simp at hb;exact omx) (by simp at hb;exact omx)) rfl rfl rfl rfl rfl ?_
     refine stg 125 (fun hb=>hop_neq rfl rfl) rfl rfl rfl rfl rfl ?_
     refine hq_p 130 (hstep_or _ _ rfl rfl rfl) rfl rfl rfl ?_
     refine nu ?_
     refine h33 _ ?_
     refine wc (fun hc6=>?_) (fun hc6=>?_)
     ·have hr6:=hc6;(try simp only [hcs,Int.reduceToNat] at hc6)
      have h6:¬ bz s q=125:=(by have h:=hr6;rw [Int.toNat_natCast,bz_neb s q (by decide)] at h;simpa using h)
      refine srg fun N h34=>sm<|sm ?_
      refine s0 (hop_call0 (xs:=[_,_]) (refWrong_h s q) ⟨rfl,⟨rfl,trivial⟩⟩ ⟨fe,⟨fe,trivial⟩⟩) ?_
      refine sm ?_
      refine s0 hex ?_
      refine s0 hex ?_
      refine sa<|sa<|snl h34<|srg fun N h35=>?_
      refine sl ty_80 ?_
      refine sm<|sm ?_
      refine sw (8) ty_80 ?_
      refine sa<|sa<|snl h35<|hw_ret<|hq_then_ret ?_
      refine hq_ret3 rfl (rvl_cell rfl rfl ty_80 rqc rfl rfl) (rval_tmp rfl) (rval_tmp rfl) [] rfl pre0 ?_
      have e:countF s i=(⟨5,i,n,m,[]⟩,wrongV s q):=(by unfold countF;rw [hn];simp only;rw [if_neg h1,if_pos h2,if_neg h3,hm];simp only;rw [if_neg h5,if_neg h6]);rw [e];exact fz_t3 (fz_agg5 fzc fzc fzc fzc fzc) (.imm _) (.imm _)
     have hr6:=hc6;(try simp only [hcs,Int.reduceToNat] at hc6)
     have h6:bz s q=125:=(by have h:=hr6;rw [Int.toNat_natCast,bz_neb s q (by decide)] at h;simpa using h)
     refine hw_skip<|h32 _<|srg fun N h36=>?_
     refine sl ty_80 ?_
     refine sm ?_
     refine s0 hai ?_
     refine sw (8) ty_80 ?_
     refine sa<|sa<|snl h36<|hw_ret ?_
     refine hq_ret3 rfl (rvl_cell rfl rfl ty_80 rqc rfl rfl) (rval_tmp rfl) (rval_tmp rfl) [] rfl pre0 ?_
     have e:countF s i=(⟨5,i,n,m,[]⟩,((q+1:Nat):Int),0):=(by unfold countF;rw [hn];simp only;rw [if_neg h1,if_pos h2,if_neg h3,hm];simp only;rw [if_neg h5,if_pos h6]);rw [e];exact fz_t3 (fz_agg5 fzc fzc fzc fzc fzc) (.imm _) (.imm _)
   have hr3:=hc3;(try simp only [hcs,Int.reduceToNat] at hc3)
   have h3:bz s (p+1)=125:=(by have h:=hr3;rw [Int.toNat_natCast,bz_neb s (p+1) (by decide)] at h;simpa using h)
   refine hw_skip<|h15 _<|hw_seq fun Nh37 h37=>srg fun N h38=>sm<|sm ?_
   refine s0 (hop_len_strl (T:=9) rfl kr rfl) ?_
   refine s0 (hop_geq rfl rfl) ?_
   refine sm ?_
   refine gm 125 ?_
   refine gm 125 ?_
   refine stg 125 (fun hb=>hop_ix_strl kr rfl rfl (by simp at hb;exact omx) (by simp at hb;exact omx)) rfl rfl rfl rfl rfl ?_
   refine stg 125 (fun hb=>hop_neq rfl rfl) rfl rfl rfl rfl rfl ?_
   refine hq_p 130 (hstep_or _ _ rfl rfl rfl) rfl rfl rfl ?_
   refine nu ?_
   refine h38 _ ?_
   refine wc (fun hc6=>?_) (fun hc6=>?_)
   ·have hr6:=hc6;(try simp only [hcs,Int.reduceToNat] at hc6)
    exfalso;have h:=hr6;rw [Int.toNat_natCast,bz_neb s (p+1) (by decide),h3] at h;exact absurd h (by decide)
   have hr6:=hc6;(try simp only [hcs,Int.reduceToNat] at hc6)
   refine hw_skip<|h37 _<|srg fun N h39=>?_
   refine sl ty_80 ?_
   refine sm ?_
   refine s0 hai ?_
   refine sw (7) ty_80 ?_
   refine sa<|sa<|snl h39<|hw_ret ?_
   refine hq_ret3 rfl (rvl_cell rfl rfl ty_80 rqc rfl rfl) (rval_tmp rfl) (rval_tmp rfl) [] rfl pre0 ?_
   have e:countF s i=(⟨5,i,n,-1,[]⟩,((p+2:Nat):Int),0):=(by unfold countF;rw [hn];simp only;rw [if_neg h1,if_pos h2,if_pos h3]);rw [e];exact fz_t3 (fz_agg5 fzc fzc fzc fzc fzc) (fz_int (by show ((p+1:Nat):Int)+1=((p+2:Nat):Int);omega)) (.imm _)
  have hr2:=hc2;(try simp only [hcs,Int.reduceToNat] at hc2)
  have h2:¬ bz s p=44:=(by have h:=hr2;rw [Int.toNat_natCast,bz_eqb s p (by decide)] at h;exact of_decide_eq_false h)
  refine hw_skip<|h15 _<|hw_seq fun Nh40 h40=>srg fun N h41=>sm<|sm ?_
  refine s0 (hop_len_strl (T:=9) rfl kr rfl) ?_
  refine s0 (hop_geq rfl rfl) ?_
  refine sm ?_
  refine gm 125 ?_
  refine gm 125 ?_
  refine stg 125 (fun hb=>hop_ix_strl kr rfl rfl (by simp at hb;exact omx) (by simp at hb;exact omx)) rfl rfl rfl rfl rfl ?_
  refine stg 125 (fun hb=>hop_neq rfl rfl) rfl rfl rfl rfl rfl ?_
  refine hq_p 130 (hstep_or _ _ rfl rfl rfl) rfl rfl rfl ?_
  refine nu ?_
  refine h41 _ ?_
  refine wc (fun hc6=>?_) (fun hc6=>?_)
  ·have hr6:=hc6;(try simp only [hcs,Int.reduceToNat] at hc6)
   have h6:¬ bz s p=125:=(by have h:=hr6;rw [Int.toNat_natCast,bz_neb s p (by decide)] at h;simpa using h)
   refine srg fun N h42=>sm<|sm ?_
   refine s0 (hop_call0 (xs:=[_,_]) (refWrong_h s p) ⟨rfl,⟨rfl,trivial⟩⟩ ⟨fe,⟨fe,trivial⟩⟩) ?_
   refine sm ?_
   refine s0 hex ?_
   refine s0 hex ?_
   refine sa<|sa<|snl h42<|srg fun N h43=>?_
   refine sl ty_80 ?_
   refine sm<|sm ?_
   refine sw (6) ty_80 ?_
   refine sa<|sa<|snl h43<|hw_ret<|hq_then_ret ?_
   refine hq_ret3 rfl (rvl_cell rfl rfl ty_80 rqc rfl rfl) (rval_tmp rfl) (rval_tmp rfl) [] rfl pre0 ?_
   have e:countF s i=(⟨5,i,n,n,[]⟩,wrongV s p):=(by unfold countF;rw [hn];simp only;rw [if_neg h1,if_neg h2,if_neg h6]);rw [e];exact fz_t3 (fz_agg5 fzc fzc fzc fzc fzc) (.imm _) (.imm _)
  have hr6:=hc6;(try simp only [hcs,Int.reduceToNat] at hc6)
  have h6:bz s p=125:=(by have h:=hr6;rw [Int.toNat_natCast,bz_neb s p (by decide)] at h;simpa using h)
  refine hw_skip<|h40 _<|srg fun N h44=>?_
  refine sl ty_80 ?_
  refine sm ?_
  refine s0 hai ?_
  refine sw (6) ty_80 ?_
  refine sa<|sa<|snl h44<|hw_ret ?_
  refine hq_ret3 rfl (rvl_cell rfl rfl ty_80 rqc rfl rfl) (rval_tmp rfl) (rval_tmp rfl) [] rfl pre0 ?_
  have e:countF s i=(⟨5,i,n,n,[]⟩,((p+1:Nat):Int),0):=(by unfold countF;rw [hn];simp only;rw [if_neg h1,if_neg h2,if_pos h6]);rw [e];exact fz_t3 (fz_agg5 fzc fzc fzc fzc fzc) (.imm _) (.imm _)
theorem refBegins_h (x:Int):HPure Tryz.prog 69 [.imm (.int .u8 x)] (boolV (beginZ x)):=by
 refine hpure_of Tryz.func69 rfl kr _ _ _ rfl 33 rfl rfl (fun w F=>?_)
 refine srg fun N h1=>sa<|snl h1<|srg fun N h2=>sm ?_
 refine s0 (hop_call0 (xs:=[_]) (refSmall_h _) ⟨rfl,trivial⟩ ⟨fe,trivial⟩) ?_
 refine sm ?_
 refine gm 5 ?_
 refine stg 5 (fun hb=>hop_eql rfl rfl) rfl rfl rfl rfl rfl ?_
 refine hq_p 8 (hstep_or _ _ rfl rfl rfl) rfl rfl rfl ?_
 refine sm ?_
 refine gm 9 ?_
 refine stg 9 (fun hb=>hop_eql rfl rfl) rfl rfl rfl rfl rfl ?_
 refine hq_p 12 (hstep_or _ _ rfl rfl rfl) rfl rfl rfl ?_
 refine sm ?_
 refine gm 13 ?_
 refine stg 13 (fun hb=>hop_eql rfl rfl) rfl rfl rfl rfl rfl ?_
 refine hq_p 16 (hstep_or _ _ rfl rfl rfl) rfl rfl rfl ?_
 refine sm ?_
 refine gm 17 ?_
 refine stg 17 (fun hb=>hop_eql rfl rfl) rfl rfl rfl rfl rfl ?_
 refine hq_p 20 (hstep_or _ _ rfl rfl rfl) rfl rfl rfl ?_
 refine sm ?_
 refine gm 21 ?_
 refine stg 21 (fun hb=>hop_eql rfl rfl) rfl rfl rfl rfl rfl ?_
 refine hq_p 24 (hstep_or _ _ rfl rfl rfl) rfl rfl rfl ?_
 refine sm ?_
 refine gm 25 ?_
 refine stg 25 (fun hb=>hop_eql rfl rfl) rfl rfl rfl rfl rfl ?_
 refine hq_p 28 (hstep_or _ _ rfl rfl rfl) rfl rfl rfl ?_
 refine sm ?_
 refine gm 29 ?_
 refine stg 29 (fun hb=>hop_eql rfl rfl) rfl rfl rfl rfl rfl ?_
 refine hq_p 32 (hstep_or _ _ rfl rfl rfl) rfl rfl rfl ?_
 refine sa ?_
 refine nu ?_
 refine h2 _<|hw_ret ?_
 refine hq_ret1 rfl (rval_tmp rfl) [] rfl pre0 ?_
 exact Frz.fz
theorem refOne_h (s:List UInt8) (i:Nat) (hs:s.length≤9223372036854775807) (hi:i < s.length):HPure Tryz.prog 70 [strV s,intV i] (oneH (oneF s i)):=by
 refine hpure_of Tryz.func70 rfl kr _ _ _ rfl 93 rfl rfl (fun w F=>?_)
 refine srg fun N h1=>?_
 refine hm_1 4 (hop_alloc (id:=4) (sz:=5) zc_80 rfl rfl (nb rfl) (nb rfl)) rfl rfl pre0 rfl rfl (c':=1) rfl ?_
 refine sa<|sa<|snl h1<|srg fun N h2=>sm<|sm ?_
 refine s0 (HOp.val (v':=.imm (.int .u8 (bz s i))) (hop_ix_strl kr rfl rfl om om) (by rw [bz_in hi,Int.toNat_natCast])) ?_
 refine sa<|snl h2<|hw_seq fun Nh3 h3=>srg fun N h4=>sm ?_
 refine s0 (hop_call0 (xs:=[_]) (refSmall_h _) ⟨rfl,trivial⟩ ⟨fe,trivial⟩) ?_
 refine snl h4 ?_
 refine wc (fun hc0=>?_) (fun hc0=>?_)
 ·have hr0:=hc0;(try simp only [hcs,Int.reduceToNat] at hc0)
  refine srg fun N h5=>sm<|sa<|snl h5<|hw_seq fun Nh6 h6=>hw_block ?_
  refine hw_loopc (α:=Nat) (fun x c=>⟨93,[(0,.v (strV s)),(1,.v (intV i)),(4,.v (.pt 4 0 0 0)),(8,.v (intV ((i+x:Nat):Int)))],[(4,⟨0,1,5,80,0,sg0⟩)],c⟩) (fun x=>x≤12∧i+x≤s.length∧(∀ j,j < x→alnumZ (bz s (i+j))=true)) (fun x=>12 - x) (0) (by exact ⟨by omega,by omega,fun j h=>absurd h om⟩) (hsub_of rfl (Nat.le_refl _) tsa hsa) (fun k c hx NhL7 hL7=>?_)
  (try dsimp only at hx hL7 ⊢)
  obtain ⟨hk,hik,hal⟩:=hx
  refine hw_seq fun Nh8 h8=>srg fun N h9=>sm<|sm ?_
  refine s0 (hop_len_strl (T:=9) rfl kr rfl) ?_
  refine s0 hli ?_
  refine sm ?_
  refine gm 19 ?_
  refine gm 19 ?_
  refine stg 19 (fun hb=>hop_ix_strl kr rfl rfl (by simp at hb;exact omx) (by simp at hb;exact omx)) rfl rfl rfl rfl rfl ?_
  refine stg 19 (fun hb=>hop_call0 (xs:=[_]) (refSmall_h _) ⟨rfl,trivial⟩ ⟨fe,trivial⟩) rfl rfl rfl rfl rfl ?_
  refine gm 19 ?_
  refine hq_g3 25 9 24 19 true false _ _ (fun hb hb2=>hop_move rfl) rfl rfl rfl rfl rfl pre0 rfl rfl rfl ?_
  refine hq_g3 26 9 24 19 true false _ _ (fun hb hb2=>hop_move rfl) rfl rfl rfl rfl rfl pre0 rfl rfl rfl ?_
  refine hq_g3 27 9 24 19 true false _ _ (fun hb hb2=>hop_ix_strl kr rfl rfl (by simp at hb;omega) (by simp at hb2;omega)) rfl rfl rfl rfl rfl pre0 rfl rfl rfl ?_
  refine hq_g3 28 9 24 19 true false _ _ (fun hb hb2=>hop_call0 (xs:=[_]) (refDigit_h _) ⟨rfl,trivial⟩ ⟨fe,trivial⟩) rfl rfl rfl rfl rfl pre0 rfl rfl rfl ?_
  refine hq_pg 29 (hstep_org (gi:=4) (j:=19) _ _ rfl rfl rfl rfl) rfl rfl rfl rfl ?_
  refine hq_p 30 (hstep_and _ _ rfl rfl rfl) rfl rfl rfl ?_
  refine nu ?_
  refine h9 _ ?_
  refine wc (fun hc1=>?_) (fun hc1=>?_)
  ·have hr1:=hc1;(try simp only [hcs,Int.reduceToNat] at hc1)
   have hall:alnumZ (bz s (i+k))=true:=(by have h:=hr1;rw [Int.toNat_natCast,bz_alnum] at h;exact h);have hlt:i+k < s.length:=bz_lt (fun h=>by rw [h] at hall;exact absurd hall (by decide))
   refine hw_skip<|h8 _<|hw_block<|hw_seq fun Nh10 h10=>srg fun N h11=>sm<|sm ?_
   refine s0 hsi ?_
   refine s0 hqi ?_
   refine snl h11 ?_
   refine wc (fun hc2=>?_) (fun hc2=>?_)
   ·have hr2:=hc2;(try simp only [hcs,Int.reduceToNat] at hc2)
    refine srg fun N h12=>?_
    refine s0 (hop_build (hs:=[]) st_80 rfl rfl trivial) ?_
    refine sm ?_
    refine sw (c+1) ty_80 ?_
    refine sa<|sa<|snl h12<|hw_ret<|hq_then_ret<|hq_block_ret<|hq_then_ret<|hq_block_ret<|hq_then_ret<|hq_then_ret ?_
    refine hq_ret3 rfl (rvl_cell rfl rfl ty_80 rqc rfl rfl) (rval_tmp rfl) (rval_tmp rfl) [] rfl pre0 ?_
    obtain rfl:k=12:=om;have e:oneF s i=(sgZ,((i+12:Nat):Int),2):=(by unfold oneF;rw [if_pos hc0];unfold nameF;rw [if_pos (run_eq (Nat.le_refl _) (fun j hj=>by rcases Nat.lt_or_ge j 12 with h | h;exact hal j h;obtain rfl:j=12:=om;exact hall) (fun h=>absurd h om))]);rw [e];exact fz_t3 (fz_agg5 fzc fzc fzc fzc fzc) (.imm _) (.imm _)
   have hr2:=hc2;(try simp only [hcs,Int.reduceToNat] at hc2)
   refine hw_skip<|h10 _<|hw_region<|sm ?_
   refine s0 (HOp.val (v':=intV ((i+(k+1):Nat):Int)) hai (rfl)) ?_
   refine sa<|hseq_nil<|hq_block ?_
   exact hL7 (k+1) _ _ (by (try dsimp only);exact ⟨by omega,by omega,fun j hj=>by rcases Nat.lt_or_ge j k with h | h;exact hal j h;obtain rfl:j=k:=om;exact hall⟩) (by (try dsimp only);omega) (hsub_of rfl (Nat.le_refl _) tsa hsa)
  have hr1:=hc1;(try simp only [hcs,Int.reduceToNat] at hc1)
  have hno:alnumZ (bz s (i+k))=false:=(by have h:=hr1;rw [Int.toNat_natCast,bz_alnum] at h;exact h)
  refine hw_exit ?_
  refine hq_then_exit<|hq_then_exit<|hq_block_here<|h6 _<|srg fun N h13=>sm<|sm<|sm<|sm ?_
  refine s0 (hop_cut_strl kr rfl (.inr ⟨_,_,rfl,rfl⟩) (.inr ⟨_,_,rfl,rfl⟩) om om om) ?_
  refine s0 (hop_build (hs:=[(0,1,_),(1,1,_),(4,1,_)]) st_80 rfl rfl ⟨rfl,rfl,rfl,rfl,rfl,⟨rfl,rfl,rfl,rfl,rfl,⟨rfl,rfl,rfl,rfl,rfl,trivial⟩⟩⟩) ?_
  refine sm ?_
  refine sw (c+1) ty_80 ?_
  refine sa<|sa<|snl h13<|hw_ret<|hq_then_ret ?_
  refine hq_ret3 rfl (rvl_cell rfl rfl ty_80 rqc rfl rfl) (rval_tmp rfl) (rval_tmp rfl) [] rfl pre0 ?_
  have e:oneF s i=(⟨1,i,0,0,(s.drop i).take (i+k - i)⟩,((i+k:Nat):Int),0):=(by unfold oneF;rw [if_pos hc0];unfold nameF;rw [run_eq (f:=13) (show k≤13 by omega) hal (fun _=>hno),if_neg (show ¬ k=13 by omega),show i+k - i=k by omega]);rw [e];exact fz_t3 (fz_agg5 fzc fzc fzc fzc fzc) (.imm _) (.imm _)
 have hr0:=hc0;(try simp only [hcs,Int.reduceToNat] at hc0)
 have h0:¬ smallZ (bz s i)=true:=(by rw [hc0];decide)
 refine hw_skip<|h3 _<|hw_seq fun Nh14 h14=>srg fun N h15=>sm<|snl h15<|hw_block<|srg fun N h16=>?_
 refine s0 hqi ?_
 refine sa<|snl h16 ?_
 refine wc (fun hc3=>?_) (fun hc3=>?_)
 ·have hr3:=hc3;(try simp only [hcs,Int.reduceToNat] at hc3)
  refine srg fun N h17=>sm ?_
  refine s0 (hop_build (hs:=[(0,1,_),(1,1,_)]) st_80 rfl rfl ⟨rfl,rfl,rfl,rfl,rfl,⟨rfl,rfl,rfl,rfl,rfl,trivial⟩⟩) ?_
  refine sm ?_
  refine s0 hai ?_
  refine sw (2) ty_80 ?_
  refine sa<|sa<|snl h17<|hw_ret<|hq_block_ret<|hq_then_ret ?_
  refine hq_ret3 rfl (rvl_cell rfl rfl ty_80 rqc rfl rfl) (rval_tmp rfl) (rval_tmp rfl) [] rfl pre0 ?_
  have e:oneF s i=(⟨2,i,0,0,[]⟩,((i+1:Nat):Int),0):=(by unfold oneF;rw [if_neg h0,if_pos hc3]);rw [e];exact fz_t3 (fz_agg5 fzc fzc fzc fzc fzc) (.imm _) (.imm _)
 have hr3:=hc3;(try simp only [hcs,Int.reduceToNat] at hc3)
 refine srg fun N h18=>?_
 refine s0 hqi ?_
 refine sa<|snl h18 ?_
 refine wc (fun hc4=>?_) (fun hc4=>?_)
 ·have hr4:=hc4;(try simp only [hcs,Int.reduceToNat] at hc4)
  refine srg fun N h19=>sm ?_
  refine s0 (hop_build (hs:=[(0,1,_),(1,1,_)]) st_80 rfl rfl ⟨rfl,rfl,rfl,rfl,rfl,⟨rfl,rfl,rfl,rfl,rfl,trivial⟩⟩) ?_
  refine sm ?_
  refine s0 hai ?_
  refine sw (2) ty_80 ?_
  refine sa<|sa<|snl h19<|hw_ret<|hq_block_ret<|hq_then_ret ?_
  refine hq_ret3 rfl (rvl_cell rfl rfl ty_80 rqc rfl rfl) (rval_tmp rfl) (rval_tmp rfl) [] rfl pre0 ?_
  have e:oneF s i=(⟨3,i,0,0,[]⟩,((i+1:Nat):Int),0):=(by unfold oneF;rw [if_neg h0,if_neg hc3,if_pos hc4]);rw [e];exact fz_t3 (fz_agg5 fzc fzc fzc fzc fzc) (.imm _) (.imm _)
 have hr4:=hc4;(try simp only [hcs,Int.reduceToNat] at hc4)
 refine srg fun N h20=>?_
 refine s0 hqi ?_
 refine sa<|snl h20 ?_
 refine wc (fun hc5=>?_) (fun hc5=>?_)
 ·have hr5:=hc5;(try simp only [hcs,Int.reduceToNat] at hc5)
  refine srg fun N h21=>sm ?_
  refine s0 (hop_build (hs:=[(0,1,_),(1,1,_)]) st_80 rfl rfl ⟨rfl,rfl,rfl,rfl,rfl,⟨rfl,rfl,rfl,rfl,rfl,trivial⟩⟩) ?_
  refine sm ?_
  refine s0 hai ?_
  refine sw (2) ty_80 ?_
  refine sa<|sa<|snl h21<|hw_ret<|hq_block_ret<|hq_then_ret ?_
  refine hq_ret3 rfl (rvl_cell rfl rfl ty_80 rqc rfl rfl) (rval_tmp rfl) (rval_tmp rfl) [] rfl pre0 ?_
  have e:oneF s i=(⟨4,i,0,0,[]⟩,((i+1:Nat):Int),0):=(by unfold oneF;rw [if_neg h0,if_neg hc3,if_neg hc4,if_pos hc5]);rw [e];exact fz_t3 (fz_agg5 fzc fzc fzc fzc fzc) (.imm _) (.imm _)
 have hr5:=hc5;(try simp only [hcs,Int.reduceToNat] at hc5)
 refine srg fun N h22=>?_
 refine s0 hqi ?_
 refine sa<|snl h22 ?_
 refine wc (fun hc6=>?_) (fun hc6=>?_)
 ·have hr6:=hc6;(try simp only [hcs,Int.reduceToNat] at hc6)
  refine srg fun N h23=>sm ?_
  refine s0 (hop_build (hs:=[(0,1,_),(1,1,_),(3,1,_)]) st_80 rfl rfl ⟨rfl,rfl,rfl,rfl,rfl,⟨rfl,rfl,rfl,rfl,rfl,⟨rfl,rfl,rfl,rfl,rfl,trivial⟩⟩⟩) ?_
  refine sm ?_
  refine s0 hai ?_
  refine sw (2) ty_80 ?_
  refine sa<|sa<|snl h23<|hw_ret<|hq_block_ret<|hq_then_ret ?_
  refine hq_ret3 rfl (rvl_cell rfl rfl ty_80 rqc rfl rfl) (rval_tmp rfl) (rval_tmp rfl) [] rfl pre0 ?_
  have e:oneF s i=(⟨5,i,0,-1,[]⟩,((i+1:Nat):Int),0):=(by unfold oneF;rw [if_neg h0,if_neg hc3,if_neg hc4,if_neg hc5,if_pos hc6]);rw [e];exact fz_t3 (fz_agg5 fzc fzc fzc fzc fzc) (.imm _) (.imm _)
 have hr6:=hc6;(try simp only [hcs,Int.reduceToNat] at hc6)
 refine srg fun N h24=>?_
 refine s0 hqi ?_
 refine sa<|snl h24 ?_
 refine wc (fun hc7=>?_) (fun hc7=>?_)
 ·have hr7:=hc7;(try simp only [hcs,Int.reduceToNat] at hc7)
  refine srg fun N h25=>sm ?_
  refine s0 (hop_build (hs:=[(0,1,_),(1,1,_),(2,1,_),(3,1,_)]) st_80 rfl rfl ⟨rfl,rfl,rfl,rfl,rfl,⟨rfl,rfl,rfl,rfl,rfl,⟨rfl,rfl,rfl,rfl,rfl,⟨rfl,rfl,rfl,rfl,rfl,trivial⟩⟩⟩⟩) ?_
  refine sm ?_
  refine s0 hai ?_
  refine sw (2) ty_80 ?_
  refine sa<|sa<|snl h25<|hw_ret<|hq_block_ret<|hq_then_ret ?_
  refine hq_ret3 rfl (rvl_cell rfl rfl ty_80 rqc rfl rfl) (rval_tmp rfl) (rval_tmp rfl) [] rfl pre0 ?_
  have e:oneF s i=(⟨5,i,1,-1,[]⟩,((i+1:Nat):Int),0):=(by unfold oneF;rw [if_neg h0,if_neg hc3,if_neg hc4,if_neg hc5,if_neg hc6,if_pos hc7]);rw [e];exact fz_t3 (fz_agg5 fzc fzc fzc fzc fzc) (.imm _) (.imm _)
 have hr7:=hc7;(try simp only [hcs,Int.reduceToNat] at hc7)
 refine srg fun N h26=>?_
 refine s0 hqi ?_
 refine sa<|snl h26 ?_
 refine wc (fun hc8=>?_) (fun hc8=>?_)
 ·have hr8:=hc8;(try simp only [hcs,Int.reduceToNat] at hc8)
  refine srg fun N h27=>sm ?_
  refine s0 (hop_build (hs:=[(0,1,_),(1,1,_),(3,1,_)]) st_80 rfl rfl ⟨rfl,rfl,rfl,rfl,rfl,⟨rfl,rfl,rfl,rfl,rfl,⟨rfl,rfl,rfl,rfl,rfl,trivial⟩⟩⟩) ?_
  refine sm ?_
  refine s0 hai ?_
  refine sw (2) ty_80 ?_
  refine sa<|sa<|snl h27<|hw_ret<|hq_block_ret<|hq_then_ret ?_
  refine hq_ret3 rfl (rvl_cell rfl rfl ty_80 rqc rfl rfl) (rval_tmp rfl) (rval_tmp rfl) [] rfl pre0 ?_
  have e:oneF s i=(⟨5,i,0,1,[]⟩,((i+1:Nat):Int),0):=(by unfold oneF;rw [if_neg h0,if_neg hc3,if_neg hc4,if_neg hc5,if_neg hc6,if_neg hc7,if_pos hc8]);rw [e];exact fz_t3 (fz_agg5 fzc fzc fzc fzc fzc) (.imm _) (.imm _)
 have hr8:=hc8;(try simp only [hcs,Int.reduceToNat] at hc8)
 refine srg fun N h28=>?_
 refine s0 hqi ?_
 refine sa<|snl h28 ?_
 refine wc (fun hc9=>?_) (fun hc9=>?_)
 ·have hr9:=hc9;(try simp only [hcs,Int.reduceToNat] at hc9)
  refine srg fun N h29=>sm<|sm ?_
  refine s0 (hop_call0 (xs:=[_,_]) (refCount_h s i hs hi) ⟨rfl,⟨rfl,trivial⟩⟩ ⟨fe,⟨fe,trivial⟩⟩) ?_
  refine s0 hex ?_
  refine s0 hex ?_
  refine s0 hex ?_
  refine sw (2) ty_80 ?_
  refine sa<|sa<|snl h29<|hw_ret<|hq_block_ret<|hq_then_ret ?_
  refine hq_ret3 rfl (rvl_cell rfl rfl ty_80 rqc rfl rfl) (rval_tmp rfl) (rval_tmp rfl) [] rfl pre0 ?_
  have e:oneF s i=countF s i:=(by unfold oneF;rw [if_neg h0,if_neg hc3,if_neg hc4,if_neg hc5,if_neg hc6,if_neg hc7,if_neg hc8,if_pos hc9]);rw [e];exact fz_t3 (fz_agg5 fzc fzc fzc fzc fzc) (.imm _) (.imm _)
 have hr9:=hc9;(try simp only [hcs,Int.reduceToNat] at hc9)
 refine hw_skip<|hq_block<|h14 _<|srg fun N h30=>?_
 refine s0 (hop_build (hs:=[]) st_80 rfl rfl trivial) ?_
 refine sm ?_
 refine sw (2) ty_80 ?_
 refine sa<|sa<|snl h30<|hw_ret ?_
 refine hq_ret3 rfl (rvl_cell rfl rfl ty_80 rqc rfl rfl) (rval_tmp rfl) (rval_tmp rfl) [] rfl pre0 ?_
 have e:oneF s i=(sgZ,(i:Int),2):=(by unfold oneF;rw [if_neg h0,if_neg hc3,if_neg hc4,if_neg hc5,if_neg hc6,if_neg hc7,if_neg hc8,if_neg hc9]);rw [e];exact fz_t3 (fz_agg5 fzc fzc fzc fzc fzc) (.imm _) (.imm _)
theorem sb_sg {f:Nat→HV} (x:Sg) (h0:Sb (f 0) (sgF x 0)) (h1:Sb (f 1) (sgF x 1)) (h2:Sb (f 2) (sgF x 2)) (h3:Sb (f 3) (sgF x 3)) (h4:Sb (f 4) (sgF x 4)):∀ j,j < 5→Sb (f j) (sgF x j):=fun j hj=>by
 match j,hj with
 | 0,_=>exact h0
 | 1,_=>exact h1
 | 2,_=>exact h2
 | 3,_=>exact h3
 | 4,_=>exact h4
theorem sg_fz7 {sh:List (Nat×HObj)} (x:Sg) (j:Nat):Fz sh (sgF x j) (sgF x j):=by
 match j with
 | 0=>exact .imm _
 | 1=>exact .imm _
 | 2=>exact .imm _
 | 3=>exact .imm _
 | j+4=>exact .imm _
theorem refLex_h (s:List UInt8) (hs:s.length≤9223372036854775807):HPure Tryz.prog 38 [strV s] (lexH (lexO (lexV s))):=by
 have hV:=lexV_at s
 refine hpure_of Tryz.func38 rfl kr _ _ _ rfl 47 rfl rfl (fun w F=>?_)
 refine srg fun N h1=>sa<|sa<|sa<|snl h1<|srg fun N h2=>sa<|snl h2<|hw_seq fun Nh3 h3=>srg fun N h4=>sa<|snl h4<|hw_block ?_
 refine hw_own 5 5 5 80 ((sgsF [])) rfl (by decide) rfl (c':=1) rfl ?_
 refine hw_loopc (α:=Nat×List Sg×Nat×Nat) (fun x c=>⟨47,[(0,.v (strV s)),(6,.v (intV x.1)),(5,.v (.os 5 x.2.2.1 0 x.2.2.2))],[(5,⟨x.2.2.1,x.2.2.2,5,80,0,sgsF x.2.1⟩)],c⟩) (fun x=>x.1≤s.length∧x.2.1.length≤200∧x.2.2.2=x.2.1.length∧lexAt s x.1 x.2.1=lexV s) (fun x=>s.length - x.1) ((0,[],0,0)) (by exact ⟨Nat.zero_le _,Nat.zero_le _,rfl,hV⟩) (hsub_of rfl (Nat.le_refl _) tsa hsa) (fun x c hx NhL5 hL5=>?_)
 revert hx hL5;obtain ⟨i,out,gl,n⟩:=x;intro hx hL5;dsimp only at hx hL5 ⊢
 obtain ⟨hi,hol,hn,hL⟩:=hx
 refine hw_seq fun Nh6 h6=>srg fun N h7=>sm<|sm ?_
 refine s0 (hop_len_strl (T:=9) rfl kr rfl) ?_
 refine s0 hli ?_
 refine snl h7 ?_
 refine wc (fun hc0=>?_) (fun hc0=>?_)
 ·have hr0:=hc0;(try simp only [hcs,Int.reduceToNat] at hc0)
  have hil:i < s.length:=om
  refine hw_skip<|h6 _<|hw_block<|hw_seq fun Nh8 h8=>srg fun N h9=>sm<|sm ?_
  refine s0 (HOp.val (v':=.imm (.int .u8 (bz s i))) (hop_ix_strl kr rfl rfl om om) (by rw [bz_in hil,Int.toNat_natCast])) ?_
  refine s0 hqi ?_
  refine snl h9 ?_
  refine wc (fun hc1=>?_) (fun hc1=>?_)
  ·have hr1:=hc1;(try simp only [hcs,Int.reduceToNat] at hc1)
   refine srg fun N h10=>sm ?_
   refine s0 (HOp.val (v':=intV ((i+1:Nat):Int)) hai (rfl)) ?_
   refine sa<|snl h10 ?_
   refine hw_exit ?_
   refine hq_then_exit<|hq_block_here ?_
   exact hL5 ((i+1,out,gl,n)) _ _ (by (try dsimp only);exact ⟨hil,hol,hn,by rw [←lexAt_sp hil hc1];exact hL⟩) (by (try dsimp only);omega) (hsub_of rfl (Nat.le_refl _) tsa hsa)
  have hr1:=hc1;(try simp only [hcs,Int.reduceToNat] at hc1)
  refine hw_skip<|h8 _<|hw_seq fun Nh11 h11=>srg fun N h12=>sm ?_
  refine s0 (hop_len_os (T:=76) rfl (elOf_spec el_76).1 rfl) ?_
  refine s0 hqi ?_
  refine sm ?_
  refine gm 23 ?_
  refine gm 23 ?_
  refine stg 23 (fun hb=>HOp.val (v':=.imm (.int .u8 (bz s i))) (hop_ix_strl kr rfl rfl (by simp at hb;exact omx) (by simp at hb;exact omx)) (by rw [bz_in hil,Int.toNat_natCast])) rfl rfl rfl rfl rfl ?_
  refine stg 23 (fun hb=>hop_call0 (xs:=[_]) (refBegins_h _) ⟨rfl,trivial⟩ ⟨fe,trivial⟩) rfl rfl rfl rfl rfl ?_
  refine hq_p 28 (hstep_and _ _ rfl rfl rfl) rfl rfl rfl ?_
  refine nu ?_
  refine h12 _ ?_
  refine wc (fun hc2=>?_) (fun hc2=>?_)
  ·have hr2:=hc2;(try simp only [hcs,Int.reduceToNat] at hc2)
   refine srg fun N h13=>sm<|sa<|sa<|sa<|snl h13<|hw_ret<|hq_then_ret<|hq_block_ret<|hq_then_ret<|hq_block_ret<|hq_then_ret ?_
   refine hq_ret3 rfl (rval_tmp rfl) (rval_tmp rfl) (rval_tmp rfl) [] rfl pre0 ?_
   have e:lexV s=.error ((i:Int),4):=(by rw [←hL];exact lexAt_long hil hc1 om hc2.2);rw [e];exact fz_t3 (.nil 0 5 _ (by decide) none) (.imm _) (.imm _)
  have hr2:=hc2;(try simp only [hcs,Int.reduceToNat] at hc2)
  refine hw_skip<|h11 _<|hw_seq fun Nh14 h14=>?_
  have hsm:=one_same s i hil;rcases hone:oneR s i with e | ⟨x,q⟩ <;> rw [hone] at hsm
  ·skip
   refine hw_region<|sm<|sm ?_
   refine s0 (hop_call0 (xs:=[_,_]) (refOne_h s i hs hil) ⟨rfl,⟨rfl,trivial⟩⟩ ⟨fe,⟨fe,trivial⟩⟩) ?_
   refine sm ?_
   refine s0 hex ?_
   refine s0 (HOp.val (v':=intV e.1) hex (by rw [←hsm.1];rfl)) ?_
   refine s0 (HOp.val (v':=intV e.2) hex (by rw [←hsm.1];rfl)) ?_
   refine hm_1 7 (hop_alloc (id:=7) (sz:=5) zc_80 rfl rfl (nb rfl) (nb rfl)) rfl rfl pre0 rfl rfl (c':=c+1) rfl ?_
   refine sw (c+2) ty_80 ?_
   refine sa<|sa<|snl h14<|hw_seq fun Nh15 h15=>srg fun N h16=>sm ?_
   refine s0 (hop_neq rfl rfl) ?_
   refine snl h16 ?_
   refine wc (fun hc3=>?_) (fun hc3=>?_)
   ·have hr3:=hc3;(try simp only [hcs,Int.reduceToNat] at hc3)
    refine srg fun N h17=>sm<|sm<|sa<|sa<|sa<|snl h17<|hw_ret<|hq_then_ret<|hq_block_ret<|hq_then_ret<|hq_block_ret<|hq_then_ret ?_
    refine hq_ret3 rfl (rval_tmp rfl) (rval_tmp rfl) (rval_tmp rfl) [] rfl pre0 ?_
    have e':lexV s=.error e:=(by rw [←hL];rcases Classical.em (out.length=200) with h200 | h200;(have hb:beginZ (bz s i)=false:=(by have h:=hr2;rw [show ((n:Int) == 200)=true by (rw [hn,h200];try rfl),Bool.true_and] at h;exact h);rw [lexAt_odd hil hc1 h200 hb];rw [one_nobegin hb] at hone;injection hone with hone;rw [hone]);exact lexAt_err hil hc1 h200 hone);rw [e'];exact fz_t3 (.nil 0 5 _ (by decide) none) (.imm _) (.imm _)
   have hr3:=hc3;(try simp only [hcs,Int.reduceToNat] at hc3)
   exfalso;exact hsm.2 (by simpa using hr3)
  ·skip
   refine hw_region<|sm<|sm ?_
   refine s0 (hop_call0 (xs:=[_,_]) (refOne_h s i hs hil) ⟨rfl,⟨rfl,trivial⟩⟩ ⟨fe,⟨fe,trivial⟩⟩) ?_
   refine sm ?_
   refine s0 (HOp.val (v':=sgH x) hex (by rw [show oneF s i=(x,(q:Int),0) from hsm];rfl)) ?_
   refine s0 (HOp.val (v':=intV q) hex (by rw [show oneF s i=(x,(q:Int),0) from hsm];rfl)) ?_
   refine s0 (HOp.val (v':=intV 0) hex (by rw [show oneF s i=(x,(q:Int),0) from hsm];rfl)) ?_
   refine hm_1 7 (hop_alloc (id:=7) (sz:=5) zc_80 rfl rfl (nb rfl) (nb rfl)) rfl rfl pre0 rfl rfl (c':=c+1) rfl ?_
   refine sw (c+2) ty_80 ?_
   refine sa<|sa<|snl h14<|hw_seq fun Nh18 h18=>srg fun N h19=>sm ?_
   refine s0 (hop_neq rfl rfl) ?_
   refine snl h19 ?_
   refine wc (fun hc3=>?_) (fun hc3=>?_)
   ·have hr3:=hc3;(try simp only [hcs,Int.reduceToNat] at hc3)
    exfalso;exact absurd hr3 (by decide)
   have hr3:=hc3;(try simp only [hcs,Int.reduceToNat] at hc3)
   refine hw_skip<|h18 _<|hw_seq fun Nh20 h20=>?_
   have hq:=oneR_le hone;have h200:¬ out.length=200:=(fun h200=>by have h:=hr2;rw [show ((n:Int) == 200)=true by (rw [hn,h200];try rfl),Bool.true_and] at h;rw [one_nobegin h] at hone;cases hone)
   refine hw_region<|sm ?_
   refine sl ty_80 ?_
   refine hm_1 43 (hop_buildSlice (id:=43) (hs:=[_]) ei_76 (nb rfl) rfl (nb rfl) ⟨rfl,rfl,rfl,rfl,trivial⟩) rfl rfl pre0 rfl rfl (c':=c+3) rfl ?_
   refine hm_1 44 (hol_append ei_76 (nb rfl) rfl om (nb rfl) (srl_os0 rfl (nb rfl)) om rfl) rfl rfl (preC rfl (pre1 rfl)) rfl rfl (c':=c+4) rfl ?_
   refine sa<|snl h20<|hw_region<|sm<|sa<|hseq_nil<|hq_block ?_
   exact hL5 ((q,out++[x],c+3,n+1)) _ _ (by (try dsimp only);exact ⟨hq.2,by rw [List.length_append];show out.length+1≤200;omega,by rw [List.length_append,hn];rfl,by rw [←lexAt_go hil hc1 h200 hone];exact hL⟩) (by (try dsimp only);omega) (hsub_of rfl (Nat.le_refl _) tsa (HpSub.cons rfl (OSub.of fun i j hi hj=>sb_cat (l:=out) (k:=[x]) (enc:=sgF) (d:=default) hn (fun i j _ _=>.refl _) (sb_one (x:=x) (enc:=sgF) (d:=default) (sb_sg x (.refl _) (.refl _) (.refl _) (.refl _) (.refl _))) i j (by rw [List.length_append,←hn];exact hi) hj) HpSub.nil))
 have hr0:=hc0;(try simp only [hcs,Int.reduceToNat] at hc0)
 refine hw_exit ?_
 refine hq_then_exit<|hq_then_exit<|hq_block_here<|h3 _<|srg fun N h21=>sm<|sa<|sa<|sa<|snl h21<|hw_ret ?_
 refine hq_ret3 rfl (rval_tmp rfl) (rval_tmp rfl) (rval_tmp rfl) [(5,_)] rfl (preC rfl pre0) ?_
 have e:lexV s=.ok out:=(by rw [←hL];exact lexAt_end om);rw [e];exact fz_t3 (fz_row (l:=out) (enc:=sgF) (d:=default) (List.mem_cons_self ..) rfl hn (Nat.le_refl _) (fun i j hi hj=>sg_fz7 _ j)) (.imm _) (.imm _)
instance frz_sgs (l:List Sg):Frz (sgsV l):=⟨.sl _ _ _ _ fun i j _ _=>sg_fz _ j⟩
theorem lexR_len {s:List UInt8}:∀ {f i:Nat} {out l:List Sg},out.length≤200→lexR s f i out=.ok l→l.length≤200
  | 0,i,out,l,h,e=>by injection e with e;subst e;exact h
  | f + 1, i, out, l, h, e => by
    simp only [lexR] at e
    split at e
    · injection e with e;subst e;exact h
    split at e
    · exact lexR_len h e
    split at e
    · split at e <;> cases e
    · rename_i hne
      split at e
      · cases e
      · exact lexR_len (by rw [List.length_append];show out.length+1≤200;omega) e
theorem lexO_len (s:List UInt8):(lexO (lexV s)).1.length≤200:=by
 cases h:lexV s with
 | error e=>exact Nat.zero_le _
 | ok l=>exact lexR_len (Nat.zero_le _) h
theorem lexR_err {s:List UInt8}:∀ {f i:Nat} {out:List Sg} {e:Int×Int},lexR s f i out=.error e→e.2≠0
  | 0,i,out,e,h=>by cases h
  | f + 1, i, out, e, h => by
    simp only [lexR] at h
    split at h
    · cases h
    rename_i hi
    split at h
    · exact lexR_err h
    split at h
    · split at h
      · injection h with h;subst h;show (4:Int)≠0;decide
      · injection h with h;subst h;exact wrong_ne s i
    · split at h
      · rename_i e' he
        injection h with h;subst h
        have:=one_same s i (by omega)
        rw [he] at this
        exact this.2
      · exact lexR_err h
theorem lexV_err {s:List UInt8} {e:Int×Int} (h:lexV s=.error e):(lexO (.error e)).2.2≠0:=lexR_err h
def ChI (l:List Sg) (p:Nat) (out:List Pt) (bad:Bool) (q:Nat) (o:List Pt) (ks:List Int):Prop :=
 (1≤ks.length∧ks.length≤2 * (q - p)+1)∧p≤q∧q≤l.length∧match bad with
 | true=>BadS l p q∧o.length+(if ks.length=1 then 0 else 1)≤out.length+2 * (q - p)
 | false=>(kd l q≠1∧kd l q≠2)∧∃ ts,RowsS l p q ts∧o=out++T.flatL out.length ts∧ks=rootsL out.length ts
theorem ch_start {l:List Sg} {p q g:Nat} {out o:List Pt} {t:Option T} {r:Int} (h:RsOk l 2 p out ⟨t,q,g,o,r⟩):ChI l p out t.isNone q o [r]:=by
 have hle:=rs_le h
 refine ⟨⟨Nat.le_refl _,by show 1≤_;omega⟩,hle.1,hle.2.1,?_⟩
 cases t with
 | none=>exact ⟨h.1,h.2⟩
 | some t=>exact ⟨h.2.2.2.1 (Nat.le_refl _),[t],rows_one h.1,by rw [show o=_ from h.2.1];simp [T.flatL],by rw [show r=_ from h.2.2.1];rfl⟩
theorem ch_next {l:List Sg} {p q q' g:Nat} {out o o':List Pt} {ks:List Int} {t:Option T} {r:Int} (h:ChI l p out false q o ks) (hk:kd l q=4) (h2:RsOk l 2 (q+1) o ⟨t,q',g,o',r⟩):ChI l p out t.isNone q' o' (ks++[r]):=by
  have hle:q+1≤q'∧q'≤l.length∧o'.length≤o.length+2 * (q' - (q+1)):=rs_le h2
  obtain ⟨h1,hpq,hql,_,ts,hi,ho,hks⟩:=h
  have hlt:=rows_lt hi
  have hol:o.length=out.length+T.sizeL ts:=by rw [ho,List.length_append,T.flatL_len]
  have hkl:ks.length=ts.length:=by rw [hks,rootsL_len]
  refine ⟨by rw [List.length_append];show 1≤ks.length+1∧ks.length+1≤_;omega,by omega,hle.2.1,?_⟩
  cases t with
  | none =>
    refine ⟨bad_rows hi hk h2.1,?_⟩
    rw [if_neg (by rw [List.length_append];show ¬ ks.length+1=1;omega)]
    have:=hi.1
    omega
  | some t =>
    refine ⟨h2.2.2.2.1 (Nat.le_refl _),ts++[t],rows_snoc hi hk h2.1,?_,?_⟩
    · rw [show o'=_ from h2.2.1,ho,T.flatL_snoc,List.append_assoc,List.length_append,T.flatL_len]
    · rw [show r=_ from h2.2.2.1,hks,rootsL_snoc,hol]
theorem ch_le {l:List Sg} {p q:Nat} {out o:List Pt} {ks:List Int} {bad:Bool} (h:ChI l p out bad q o ks):o.length≤out.length+2 * (q - p):=by
  obtain ⟨h1,hpq,hql,h⟩:=h
  cases bad with
  | true=>have:=h.2;omega
  | false =>
    obtain ⟨_,ts,hi,ho,hks⟩:=h
    have:=rows_lt hi
    rw [ho,List.length_append,T.flatL_len];omega
theorem ch_meas {l:List Sg} {v q q' g:Nat} {o o':List Pt} {t:Option T} {r:Int} (hq:q < l.length) (h:RsOk l v (q+1) o ⟨t,q',g,o',r⟩):2 * (l.length - q')+(if t.isNone then 0 else 1) < 2 * (l.length - q)+(if false then 0 else 1):=by
 have hle:q+1≤q'∧q'≤l.length∧o'.length≤o.length+2 * (q' - (q+1)):=rs_le h
 cases t with
 | none=>show _+0 < _+1;omega
 | some t=>show _+1 < _+1;omega
theorem ch_done {l:List Sg} {p q:Nat} {out o:List Pt} {ks:List Int} {bad:Bool} (h:ChI l p out bad q o ks) (hk:bad=true∨kd l q≠4):∃ tt:Option T,tt.isNone=bad∧∀ y,manyP 3 o ks y→RsOk l 3 p out ⟨tt,q,y.1,y.2.1,y.2.2⟩:=by
  obtain ⟨h1,hpq,hql,h⟩:=h
  cases bad with
  | true=>exact ⟨none,rfl,fun y hy=>⟨h.1,many_le (l:=l) h.2 hy⟩⟩
  | false =>
    obtain ⟨hk2,ts,hi,ho,hks⟩:=h
    have hk:=hk.resolve_left (by simp)
    have hkl:ks.length=ts.length:=by rw [hks,rootsL_len]
    by_cases h2:ts.length=1
    · match ts, h2 with
      | [t], _ =>
        refine ⟨some t,rfl,fun y hy=>?_⟩
        have hy:y.2=(o,ks.getD 0 0):=by unfold manyP at hy;rwa [if_pos (by simpa using hkl)] at hy
        refine ⟨rows_choice1 hi,?_,?_,fun _=>hk2,fun _=>hk⟩
        · show y.2.1=_;rw [hy,ho];simp [T.flatL]
        · show y.2.2=_;rw [hy,hks];rfl
    · refine ⟨some (.many 3 ts),rfl,fun y hy=>?_⟩
      have hy:y.2=(o++[⟨3,0,0,[],ks⟩],(o.length:Int)):=by unfold manyP at hy;rwa [if_neg (by omega)] at hy
      refine ⟨rows_choice hi (by have:=hi.1;omega),?_,?_,fun _=>hk2,fun _=>hk⟩
      · show y.2.1=_;rw [hy,ho,hks];simp [T.flat]
      · show y.2.2=_;rw [hy,ho];simp [T.root,T.size,T.flatL_len];omega
theorem choice_h (l:List Sg) (g p:Nat) (hk:KdOk l) (hne:l≠[]) (hl:l.length≤1000) (hp:p≤l.length) (hrow:∀ p',p≤p'→p'≤l.length→RsC 85 l 2 g p'):RsC 60 l 3 g p:=by
 intro c g2 out ho
 refine hfun_of Tryz.func60 rfl kr _ _ _ _ rfl 36 rfl rfl (fun X ok hX=>?_)
 refine srg fun N h1=>sa<|snl h1<|srg fun N h2=>sm ?_
 refine hf_callR 5 (xs:=[_]) (pre:=[(9001,_),(9002,_)]) (hrow p (Nat.le_refl _) hp _ g2 out ho) ⟨rfl,trivial⟩ (preC rfl (preC rfl pre0)) rfl rfl (fun x1 c1 hx=>?_)
 obtain ⟨t1,q1,g3,o3,r⟩:=x1
 (try dsimp only)
 refine hm_1 6 (hop_buildSlice (id:=6) (hs:=[_]) ei_25 (nb rfl) rfl (nb rfl) ⟨rfl,rfl,rfl,rfl,trivial⟩) rfl rfl pre0 rfl rfl (c':=c1+1) rfl ?_
 refine sa<|snl h2<|hw_seq fun Nh3 h3=>hw_block ?_
 refine hw_loopc (α:=Bool×Nat×List Pt×List Int×Nat×Nat) (fun x c=>⟨36,[(0,.v (.pt 9001 g 0 0)),(3,.v (.os 6 x.2.2.2.2.2 0 x.2.2.2.1.length))],[(9001,erO g l x.2.1 x.2.2.2.2.1 x.2.2.1.length x.1),(9002,ptsO x.2.2.2.2.1 x.2.2.1),(6,⟨x.2.2.2.2.2,x.2.2.2.1.length,1,3,0,kidsF x.2.2.2.1⟩)],c⟩) (fun x=>ChI l p out x.1 x.2.1 x.2.2.1 x.2.2.2.1) (fun x=>2 * (l.length - x.2.1)+(if x.1 then 0 else 1)) ((t1.isNone,q1,o3,[r],g3,c1)) (by exact ch_start hx) (hsub_of rfl (Nat.le_refl _) tsa (hsr rfl (hsr rfl (HpSub.cons rfl (OSub.of fun i j hi hj=>by obtain rfl:i=0:=om;exact .refl _) HpSub.nil)))) (fun x c hx NhL4 hL4=>?_)
 revert hx hL4;obtain ⟨bad,q,o,ks,gg,gk⟩:=x;intro hx hL4;dsimp only at hx hL4 ⊢
 obtain ⟨hq1,hq2,hq3,hR⟩:=hx
 have hI:ChI l p out bad q o ks:=⟨hq1,hq2,hq3,hR⟩;have hol:=ch_le hI
 refine hw_seq fun Nh5 h5=>srg fun N h6=>sm ?_
 refine sn ?_
 refine sf fd_112_2 ?_
 refine sl ty_4 ?_
 refine s0 (hop_not rfl) ?_
 refine sm ?_
 refine gm 12 ?_
 refine stg 12 (fun hb=>hop_nilcheck_pt rfl) rfl rfl rfl rfl rfl ?_
 refine stg 12 (fun hb=>hop_fa fd_112_0 rfl) rfl rfl rfl rfl rfl ?_
 refine hq_g 16 5 12 true _ (fun hb=>hop_funR (xs:=[_]) (pre:=[(9001,_),(9002,_)]) (kind_h g l q gg o bad hl hI.2.2.1) ⟨rfl,trivial⟩) rfl rfl rfl rfl (preC rfl (preC rfl pre0)) rfl rfl rfl ?_
 refine stg 12 (fun hb=>hop_eql rfl rfl) rfl rfl rfl rfl rfl ?_
 refine hq_p 18 (hstep_and _ _ rfl rfl rfl) rfl rfl rfl ?_
 refine nu ?_
 refine h6 _ ?_
 refine wc (fun hc0=>?_) (fun hc0=>?_)
 ·have hr0:=hc0;(try simp only [hcs,Int.reduceToNat] at hc0)
  obtain ⟨rfl,hkq⟩:bad=false∧kd l q=4:=(by cases bad with | true=>exact absurd hr0 (by simp) | false=>exact ⟨rfl,by simpa using hr0⟩);have hlt:=kd_lt (l:=l) (i:=q) (by rw [hkq];decide)
  refine hw_skip<|h5 _<|hw_block<|srg fun N h7=>sm ?_
  refine sn ?_
  refine sf fd_112_0 ?_
  refine sf fd_110_1 ?_
  refine sl ty_3 ?_
  refine s0 hai ?_
  refine sn ?_
  refine sf fd_112_0 ?_
  refine sf fd_110_1 ?_
  refine sx (c+1) ty_3 ?_
  refine snl h7 ?_
  refine (hsub_ob 9001 (erO g l (q+1) gg o.length false) rfl (by exact osub4 (.refl _) (sb_int om) (.refl _) (.refl _))).wp ?_
  refine hw_region<|sm<|sm ?_
  refine hf_callR 30 (xs:=[_]) (pre:=[(9001,_),(9002,_)]) (hrow (q+1) om hlt _ gg o om) ⟨rfl,trivial⟩ (preC rfl (preC rfl pre0)) rfl rfl (fun x2 c2 hx2=>?_)
  obtain ⟨t,q',g4,o4,r'⟩:=x2
  (try dsimp only)
  refine hm_1 31 (hop_buildSlice (id:=31) (hs:=[_]) ei_25 (nb rfl) rfl (nb rfl) ⟨rfl,rfl,rfl,rfl,trivial⟩) rfl rfl pre0 rfl rfl (c':=c2+1) rfl ?_
  refine hm_1 32 (hol_append ei_25 (nb rfl) rfl om (nb rfl) (srl_os0 rfl (nb rfl)) om rfl) rfl rfl (preC rfl (pre1 rfl)) rfl rfl (c':=c2+2) rfl ?_
  refine sa<|hseq_nil<|hq_block ?_
  exact hL4 ((t.isNone,q',o4,ks++[r'],g4,c2+1)) _ _ (by (try dsimp only);exact ch_next hI hkq hx2) (by (try dsimp only);exact ch_meas hlt hx2) (hsub_of rfl (Nat.le_refl _) (tsr rfl (TmSub.cons rfl (sb_os (by simp)) TmSub.nil)) (hsr rfl (hsr rfl (HpSub.cons rfl (osub_snoc (enc:=fun x _=>intV x) (d:=0) rfl (fun i j _ _=>.refl _) (fun j hj=>.refl _)) HpSub.nil))))
 have hr0:=hc0;(try simp only [hcs,Int.reduceToNat] at hc0)
 obtain ⟨tt,rfl,hdone⟩:=ch_done hI (by cases bad with | true=>exact .inl rfl | false=>right;simpa using hr0)
 refine hw_exit ?_
 refine hq_then_exit<|hq_then_exit<|hq_block_here<|h3 _<|srg fun N h8=>sm<|sm ?_
 refine (hsub_shr 34 [(6,_)] rfl (preC rfl pre0) rfl ((show Fz _ _ (kidsV ks) from fz_row (l:=ks) (enc:=fun x _=>intV x) (d:=0) (List.mem_cons_self ..) rfl rfl (Nat.le_refl _) (fun i j hi hj=>.imm _)))).seq ?_
 refine hf_callR 35 (xs:=[_,_,_]) (pre:=[(9001,_),(9002,_)]) (many_h _ g l q gg _ tt.isNone o 3 ks rfl om) ⟨rfl,⟨rfl,⟨rfl,trivial⟩⟩⟩ (preC rfl (preC rfl pre0)) rfl rfl (fun x3 c3 hy=>?_)
 obtain ⟨g5,o5,r5⟩:=x3
 (try dsimp only)
 refine sa<|snl h8<|hw_ret ?_
 refine hf_retR1 ok hX RetS.one rfl (rval_tmp rfl) [] rfl pre0 (⟨tt,q,g5,o5,r5⟩) (hdone _ hy) (by rfl) (by rfl) (kza) ?_
 exact ⟨⟨_,rfl,okz_er rfl rfl⟩,⟨⟨_,rfl,okz_pts⟩,trivial⟩⟩
theorem read_h (l:List Sg) (g:Nat) (hk:KdOk l) (hne:l≠[]) (hl:l.length≤1000):∀ n p,l.length - p < n→p≤l.length→RsC 60 l 3 g p
 | 0,p,h,_=>absurd h (Nat.not_lt_zero _)
 | n+1,p,h,hp=>choice_h l g p hk hne hl hp fun p1 h1 hp1=>row_h l g p1 hk hne hl hp1 fun p2 h2 hp2=>item_h l g p2 hk hne hl hp2 fun p3 h3 hp3=>read_h l g hk hne hl n p3 (by omega) hp3
inductive ParseIs (s:List UInt8):List Pt×Int×Int→Prop
 | err (e:Int×Int):lexV s=.error e→ParseIs s ([],e.1,e.2)
 | none:lexV s=.ok []→ParseIs s ([],0,0)
 | odd (l:List Sg) (q:Nat):lexV s=.ok l→l≠[]→q < l.length→chk l 0 0 true true=((q:Int),false)→ParseIs s ([],(l.getD q default).at_,2)
 | end_ (l:List Sg):lexV s=.ok l→l≠[]→chk l 0 0 true true=(-1,true)→ParseIs s ([],s.length,5)
 | ok (l:List Sg) (t:T):lexV s=.ok l→Seg l 3 0 l.length t→ParseIs s (T.flat 0 t,0,0)
@[reducible] def parseH (r:List Pt×Int×Int):HV:=t3 (ptsV r.1) (intV r.2.1) (intV r.2.2)
theorem sgW_kd {l:List Sg} (h:∀ x∈l,SgW x):KdOk l:=fun x hx=>by
 have:=h x hx
 cases this with
 | name _ _ _=>exact ⟨by show (1:Int)≤1;decide,by show (1:Int)≤5;decide⟩
 | open_=>exact ⟨by show (1:Int)≤2;decide,by show (2:Int)≤5;decide⟩
 | shut=>exact ⟨by show (1:Int)≤3;decide,by show (3:Int)≤5;decide⟩
 | or_=>exact ⟨by show (1:Int)≤4;decide,by show (4:Int)≤5;decide⟩
 | times _=>exact ⟨by show (1:Int)≤5;decide,by show (5:Int)≤5;decide⟩
theorem lex_err {s:List UInt8} {r:List Sg×Int×Int} (hr:lexO (lexV s)=r) (h:r.2.2≠0):ParseIs s ([],r.2.1,r.2.2):=by
 cases hv:lexV s with
 | error e=>rw [hv] at hr;subst hr;exact .err e hv
 | ok l=>rw [hv] at hr;subst hr;exact absurd rfl h
theorem lex_fine {s:List UInt8} {r:List Sg×Int×Int} (hr:lexO (lexV s)=r) (h:r.2.2=0):lexV s=.ok r.1:=by
 cases hv:lexV s with
 | error e=>rw [hv] at hr;subst hr;exact absurd h (lexV_err hv)
 | ok l=>rw [hv] at hr;subst hr;rfl
theorem parse_odd {s:List UInt8} {l:List Sg} {x:Rs} (hv:lexV s=.ok l) (hk:KdOk l) (hne:l≠[]) (hx:RsOk l 3 0 [] x) (hq:x.q < l.length):ParseIs s ([],(l.getD x.q default).at_,2):=by
 obtain ⟨t,q,g,o,r⟩:=x
 cases t with
 | none=>exact .odd l q hv hne hq (by rw [hx.1.bad 0 true];exact badAt_lt hq)
 | some t=>exact .odd l q hv hne hq (rest_bad hk hx.1 hq (hx.2.2.2.1 (by decide)).1 (hx.2.2.2.1 (by decide)).2 (hx.2.2.2.2 (by decide)))
theorem parse_end {s:List UInt8} {l:List Sg} {x:Rs} (hv:lexV s=.ok l) (hne:l≠[]) (hx:RsOk l 3 0 [] x) (hq:l.length≤x.q) (hb:x.t.isNone=true):ParseIs s ([],s.length,5):=by
 obtain ⟨t,q,g,o,r⟩:=x
 cases t with
 | none=>exact .end_ l hv hne (by rw [hx.1.bad 0 true];exact badAt_end hq)
 | some t=>cases hb
theorem parse_ok {s:List UInt8} {l:List Sg} {x:Rs} (hv:lexV s=.ok l) (hx:RsOk l 3 0 [] x) (hq:l.length≤x.q) (hb:x.t.isNone=false):ParseIs s (x.out,0,0):=by
  obtain ⟨t,q,g,o,r⟩:=x
  cases t with
  | none=>cases hb
  | some t =>
    have hql:=seg_lt hx.1
    simp only at hql hq
    obtain rfl:q=l.length:=by omega
    rw [show (⟨some t,l.length,g,o,r⟩:Rs).out=[]++T.flat 0 t from hx.2.1]
    exact .ok l t hv hx.1
theorem parse_h (c:Nat) (s:List UInt8) (hs:s.length≤1000000):HFun Tryz.prog 30 c [strV s] [] (RetP (fun (r:List Pt×Int×Int) _=>ParseIs s r) parseH (fun _=>[])):=by
 have hlen:=lexO_len s
 have hlx:=lex_h s hs
 generalize hr:lexO (lexV s)=r at hlen hlx
 refine hfun_of Tryz.func30 rfl kr _ _ _ _ rfl 57 rfl rfl (fun X ok hX=>?_)
 refine srg fun N h1=>sa<|sa<|sa<|snl h1<|srg fun N h2=>sm ?_
 refine s0 (hop_call0 (xs:=[_]) (hlx) ⟨rfl,trivial⟩ ⟨fe,trivial⟩) ?_
 refine sm ?_
 refine s0 hex ?_
 refine s0 hex ?_
 refine s0 hex ?_
 refine sa<|sa<|sa<|snl h2<|hw_seq fun Nh3 h3=>srg fun N h4=>sm ?_
 refine s0 (hop_neq rfl rfl) ?_
 refine snl h4 ?_
 refine wc (fun hc0=>?_) (fun hc0=>?_)
 ·have hr0:=hc0;(try simp only [hcs,Int.reduceToNat] at hc0)
  refine srg fun N h5=>sm<|sm<|sa<|sa<|sa<|snl h5<|hw_ret<|hq_then_ret ?_
  refine hf_retR3 ok hX RetS.one rfl (rval_tmp rfl) (rval_tmp rfl) (rval_tmp rfl) [] rfl pre0 (([],r.2.1,r.2.2)) (lex_err hr hc0) (by rfl) (by rfl) (kz_t3 (.fz _ _ (.nil 0 5 _ (by decide) none)) kza kza) ?_
  exact trivial
 have hr0:=hc0;(try simp only [hcs,Int.reduceToNat] at hc0)
 have hv:=lex_fine hr hc0;have hk:=sgW_kd (lexV_W hv)
 refine hw_skip<|h3 _<|hw_seq fun Nh6 h6=>srg fun N h7=>sm ?_
 refine s0 (hnl el_105) ?_
 refine s0 hqi ?_
 refine snl h7 ?_
 refine wc (fun hc1=>?_) (fun hc1=>?_)
 ·have hr1:=hc1;(try simp only [hcs,Int.reduceToNat] at hc1)
  refine srg fun N h8=>sa<|sa<|sa<|snl h8<|hw_ret<|hq_then_ret ?_
  refine hf_retR3 ok hX RetS.one rfl (rval_tmp rfl) (rval_tmp rfl) (rval_tmp rfl) [] rfl pre0 (([],0,0)) (.none (by rw [hv,List.length_eq_zero_iff.1 (show r.1.length=0 by omega)])) (by rfl) (by rfl) (kz_t3 (.fz _ _ (.nil 0 5 _ (by decide) none)) kza kza) ?_
  exact trivial
 have hr1:=hc1;(try simp only [hcs,Int.reduceToNat] at hc1)
 have hne:r.1≠[]:=(fun h=>by rw [h] at hc1;exact hc1 rfl)
 refine hw_skip<|h6 _<|srg fun N h9=>sm ?_
 refine s0 (hop_build (hs:=[(0,1,_)]) st_110 rfl rfl ⟨rfl,rfl,rfl,rfl,rfl,trivial⟩) ?_
 refine s0 (hop_build (hs:=[(0,2,_)]) st_112 rfl rfl ⟨rfl,rfl,rfl,rfl,rfl,trivial⟩) ?_
 refine hm_1 25 (hop_box (id:=9001) (sz:=4) rfl rfl rfl (by decide) (by decide)) rfl rfl pre0 rfl rfl (c':=c+1) rfl ?_
 refine sa<|snl h9<|hw_seq fun Nh10 h10=>?_
 refine (hsub_ownc 9001 2 9002 5 29 (ptsF []) (erF r.1 0 (c+1) 0 false) rfl rfl (fun j hj=>by match j,hj with | 0,_=>exact .inr rfl | 1,_=>exact .inr rfl | 2,_=>exact .inl ⟨rfl,rfl⟩ | 3,_=>exact .inr rfl) (by decide) (by decide) (c':=c+2) rfl).wp ?_
 refine hw_region<|sm ?_
 refine hf_callR 27 (xs:=[_]) (pre:=[(9001,_),(9002,_)]) (read_h r.1 c hk hne om _ 0 (Nat.lt_succ_self _) (Nat.zero_le _) _ (c+1) [] (by simp)) ⟨rfl,trivial⟩ (preC rfl (preC rfl pre0)) rfl rfl (fun x1 c1 hx=>?_)
 obtain ⟨t,q,g2,o2,r2⟩:=x1
 (try dsimp only)
 refine snl h10<|hw_seq fun Nh11 h11=>hw_block<|hw_seq fun Nh12 h12=>?_
 have hle:0≤q∧q≤r.1.length∧o2.length≤0+2 * (q - 0):=rs_le hx
 refine hw_region<|sm ?_
 refine sn ?_
 refine sf fd_112_0 ?_
 refine sf fd_110_1 ?_
 refine sl ty_3 ?_
 refine sm ?_
 refine s0 (hnl el_105) ?_
 refine s0 hli ?_
 refine sa<|snl h12 ?_
 refine wc (fun hc2=>?_) (fun hc2=>?_)
 ·have hr2:=hc2;(try simp only [hcs,Int.reduceToNat] at hc2)
  refine hw_seq fun Nh13 h13=>hd_start ?_
  refine dm 1 ?_
  refine dm 2 ?_
  refine dk 3 ?_
  refine df 4 fd_112_0 ?_
  refine df 5 fd_110_1 ?_
  refine dl 6 ty_3 ?_
  refine d0 7 (hix el_105) ?_
  refine d0 8 (hop_fa_fp fd_113_1 rfl (nb rfl)) ?_
  refine d0 9 (hlf ty_3) ?_
  refine d0 10 (hop_assign rfl) ?_
  refine d0 11 (hop_assign rfl) ?_
  refine d0 12 (hop_assign rfl) ?_
  refine hd_nil kr kr (c':=c1+12) rfl ?_
  refine h13 _<|hw_ret<|hq_block_ret<|hq_then_ret ?_
  refine hf_retR3 ok hX RetS.one rfl (rval_tmp rfl) (rval_tmp rfl) (rval_tmp rfl) [] rfl pre0 (([],(r.1.getD q default).at_,2)) (parse_odd hv hk hne hx (show q < r.1.length by omega)) (by rfl) (by rfl) (kz_t3 (.fz _ _ (.nil 0 5 _ (by decide) none)) kza kza) ?_
  exact trivial
 have hr2:=hc2;(try simp only [hcs,Int.reduceToNat] at hc2)
 refine srg fun N h14=>sm ?_
 refine sn ?_
 refine sf fd_112_2 ?_
 refine sl ty_4 ?_
 refine sa<|snl h14 ?_
 refine wc (fun hc3=>?_) (fun hc3=>?_)
 ·have hr3:=hc3;(try simp only [hcs,Int.reduceToNat] at hc3)
  refine srg fun N h15=>sm ?_
  refine s0 (hop_len_strl (T:=9) rfl kr rfl) ?_
  refine sa<|sa<|sa<|snl h15<|hw_ret<|hq_block_ret<|hq_then_ret ?_
  refine hf_retR3 ok hX RetS.one rfl (rval_tmp rfl) (rval_tmp rfl) (rval_tmp rfl) [] rfl pre0 (([],(s.length:Int),5)) (parse_end hv hne hx (show r.1.length≤q by omega) hc3) (by rfl) (by rfl) (kz_t3 (.fz _ _ (.nil 0 5 _ (by decide) none)) kza kza) ?_
  exact trivial
 have hr3:=hc3;(try simp only [hcs,Int.reduceToNat] at hc3)
 refine hw_skip<|hq_block<|h11 _<|srg fun N h16=>sm ?_
 refine sn ?_
 refine sf fd_112_1 ?_
 refine sl ty_24 ?_
 refine sa<|sa<|sa<|snl h16<|hw_ret ?_
 refine hf_retR3 ok hX RetS.one rfl (rval_tmp rfl) (rval_tmp rfl) (rval_tmp rfl) [(9002,_)] rfl (preC rfl pre0) ((o2,0,0)) (parse_ok hv hx (show r.1.length≤q by omega) hc3) (by rfl) (by rfl) (kz_t3 (.fz _ _ (fz_row (l:=o2) (enc:=ptF) (d:=default) (List.mem_cons_self ..) rfl rfl (Nat.le_refl _) (fun i j hi hj=>pt_fz _ j))) kza kza) ?_
 exact trivial
theorem sb_bool {a b:Bool} (h:a=b):Sb (boolV a) (boolV b):=by subst h;exact .refl _
theorem fz_snoc {sh:List (Nat×HObj)} {acc:List Int} {r:Int} {j:Nat} (i:Nat) (hi:i < (acc++[r]).length):Fz sh (cat acc.length (kidsF acc) (bsf [intV r]) i j) (intV ((acc++[r]).getD i 0)):=by
 by_cases h:i < acc.length
 ·rw [cat_lt h,getD_app h];exact .imm _
 ·have:i=acc.length:=by rw [List.length_append,List.length_singleton] at hi;omega
  subst this
  rw [cat_ge (Nat.le_refl _),Nat.sub_self,getD_snoc];exact .imm _
theorem check_h (l:List Sg) (hl:l.length≤1000):HPure Tryz.prog 71 [sgsV l] (t2 (intV (chk l 0 0 true true).1) (boolV (chk l 0 0 true true).2)):=by
 refine hpure_of Tryz.func71 rfl kr _ _ _ rfl 75 rfl rfl (fun w F=>?_)
 refine srg fun N h1=>sa<|sa<|snl h1<|srg fun N h2=>sa<|snl h2<|srg fun N h3=>sa<|snl h3<|srg fun N h4=>sa<|snl h4<|hw_seq fun Nh5 h5=>srg fun N h6=>sa<|snl h6<|hw_block ?_
 refine hw_loopc (α:=Nat×Nat×Bool×Bool) (fun x c=>⟨75,[(0,.v (sgsV l)),(4,.v (intV x.2.1)),(5,.v (boolV x.2.2.1)),(6,.v (boolV x.2.2.2)),(7,.v (intV x.1))],[],c⟩) (fun x=>x.1≤l.length∧x.2.1≤x.1∧chk l x.1 x.2.1 x.2.2.1 x.2.2.2=chk l 0 0 true true) (fun x=>l.length - x.1) ((0,0,true,true)) (by exact ⟨Nat.zero_le _,Nat.zero_le _,rfl⟩) (hsub_of rfl (Nat.le_refl _) tsa HpSub.nil) (fun x c hx NhL7 hL7=>?_)
 revert hx hL7;obtain ⟨i,d,it,ct⟩:=x;intro hx hL7;dsimp only at hx hL7 ⊢
 obtain ⟨hi,hd,hC⟩:=hx
 refine hw_seq fun Nh8 h8=>srg fun N h9=>sm<|sm ?_
 refine s0 (hnl el_76) ?_
 refine s0 hli ?_
 refine snl h9 ?_
 refine wc (fun hc0=>?_) (fun hc0=>?_)
 ·have hr0:=hc0;(try simp only [hcs,Int.reduceToNat] at hc0)
  have hil:i < l.length:=om
  refine hw_skip<|h8 _<|hw_seq fun Nh10 h10=>hw_block<|srg fun N h11=>sm<|sm ?_
  refine s0 (hix el_76) ?_
  refine s0 (hop_fa_fp fd_80_0 rfl (nb rfl)) ?_
  refine s0 (HOp.val (v':=intV (kd l i)) (hlf ty_3) (by rw [kd_in hil];rfl)) ?_
  refine sa<|snl h11<|hw_seq fun Nh12 h12=>srg fun N h13=>sm<|sm ?_
  refine gm 21 ?_
  refine stg 21 (fun hb=>hop_neq rfl rfl) rfl rfl rfl rfl rfl ?_
  refine hq_p 24 (hstep_and _ _ rfl rfl rfl) rfl rfl rfl ?_
  refine sm ?_
  refine gm 25 ?_
  refine stg 25 (fun hb=>hop_neq rfl rfl) rfl rfl rfl rfl rfl ?_
  refine hq_p 28 (hstep_and _ _ rfl rfl rfl) rfl rfl rfl ?_
  refine sm ?_
  refine gm 29 ?_
  refine stg 29 (fun hb=>hop_eql rfl rfl) rfl rfl rfl rfl rfl ?_
  refine gm 29 ?_
  refine hq_g3 33 12 32 29 false true _ _ (fun hb hb2=>hop_move rfl) rfl rfl rfl rfl rfl pre0 rfl rfl rfl ?_
  refine hq_g3 34 12 32 29 false true _ _ (fun hb hb2=>hop_eql rfl rfl) rfl rfl rfl rfl rfl pre0 rfl rfl rfl ?_
  refine hq_pg 35 (hstep_andg (gi:=9) (j:=29) _ _ rfl rfl rfl rfl) rfl rfl rfl rfl ?_
  refine hq_p 36 (hstep_or _ _ rfl rfl rfl) rfl rfl rfl ?_
  refine sm ?_
  refine gm 37 ?_
  refine stg 37 (fun hb=>hop_eql rfl rfl) rfl rfl rfl rfl rfl ?_
  refine gm 37 ?_
  refine hq_g3 41 20 40 37 false true _ _ (fun hb hb2=>hop_move rfl) rfl rfl rfl rfl rfl pre0 rfl rfl rfl ?_
  refine hq_pg 42 (hstep_andg (gi:=17) (j:=37) _ _ rfl rfl rfl rfl) rfl rfl rfl rfl ?_
  refine hq_p 43 (hstep_or _ _ rfl rfl rfl) rfl rfl rfl ?_
  refine nu ?_
  refine h13 _ ?_
  refine wc (fun hc1=>?_) (fun hc1=>?_)
  ·have hr1:=hc1;(try simp only [hcs,Int.reduceToNat] at hc1)
   have hbad:(it=true∧kd l i≠1∧kd l i≠2)∨(kd l i=3∧d=0)∨(kd l i=5∧ct=true):=(by have h:=hr1;cases it <;> cases ct <;> simp at h ⊢ <;> omega)
   refine srg fun N h14=>sm<|sa<|sa<|snl h14<|hw_ret<|hq_then_ret<|hq_block_ret<|hq_then_ret<|hq_then_ret<|hq_block_ret<|hq_then_ret ?_
   refine hq_ret2 rfl (rval_tmp rfl) (rval_tmp rfl) [] rfl pre0 ?_
   rw [←hC,chk_bad hil hbad];exact fz_t2 (.imm _) (.imm _)
  have hr1:=hc1;(try simp only [hcs,Int.reduceToNat] at hc1)
  have hbad:¬ ((it=true∧kd l i≠1∧kd l i≠2)∨(kd l i=3∧d=0)∨(kd l i=5∧ct=true)):=(by have h:=hr1;cases it <;> cases ct <;> simp at h ⊢ <;> omega)
  refine hw_skip<|h12 _<|hw_seq fun Nh15 h15=>srg fun N h16=>sm ?_
  refine s0 hqi ?_
  refine snl h16 ?_
  refine wc (fun hc2=>?_) (fun hc2=>?_)
  ·have hr2:=hc2;(try simp only [hcs,Int.reduceToNat] at hc2)
   refine hw_region<|sm ?_
   refine s0 hai ?_
   refine sa<|snl h15<|hw_seq fun Nh17 h17=>srg fun N h18=>sm ?_
   refine s0 hqi ?_
   refine snl h18 ?_
   refine wc (fun hc3=>?_) (fun hc3=>?_)
   ·have hr3:=hc3;(try simp only [hcs,Int.reduceToNat] at hc3)
    exfalso;omega
   have hr3:=hc3;(try simp only [hcs,Int.reduceToNat] at hc3)
   refine hw_skip<|h17 _<|srg fun N h19=>sm ?_
   refine s0 hqi ?_
   refine sm ?_
   refine gm 55 ?_
   refine stg 55 (fun hb=>hop_eql rfl rfl) rfl rfl rfl rfl rfl ?_
   refine hq_p 58 (hstep_or _ _ rfl rfl rfl) rfl rfl rfl ?_
   refine sa ?_
   refine nu ?_
   refine h19 _<|hw_region<|sm ?_
   refine s0 (hop_neq rfl rfl) ?_
   refine sm ?_
   refine gm 61 ?_
   refine stg 61 (fun hb=>hop_neq rfl rfl) rfl rfl rfl rfl rfl ?_
   refine hq_p 64 (hstep_and _ _ rfl rfl rfl) rfl rfl rfl ?_
   refine sa ?_
   refine nu ?_
   refine hq_block<|h10 _<|hw_region<|sm ?_
   refine s0 hai ?_
   refine sa<|hseq_nil ?_
   exact hL7 ((i+1,d+1,(decide (kd l i=2)||decide (kd l i=4)),(!decide (kd l i=1)&&!decide (kd l i=3)))) _ _ (by (try dsimp only);exact ⟨hil,by omega,by rw [←hC,chk_step hil,if_neg hbad,if_pos hc2]⟩) (by (try dsimp only);omega) (hsub_of rfl (Nat.le_refl _) (tsr rfl (TmSub.cons rfl (by dsimp only;exact sb_int om) (TmSub.cons rfl (by dsimp only;exact sb_bool (by first | rfl | simp | (trace_state;rfl))) (TmSub.cons rfl (by dsimp only;exact sb_bool (by first | rfl | simp | (trace_state;rfl))) (TmSub.cons rfl (by dsimp only;exact sb_int om) TmSub.nil))))) HpSub.nil)
  have hr2:=hc2;(try simp only [hcs,Int.reduceToNat] at hc2)
  refine hw_skip<|h15 _<|hw_seq fun Nh20 h20=>srg fun N h21=>sm ?_
  refine s0 hqi ?_
  refine snl h21 ?_
  refine wc (fun hc3=>?_) (fun hc3=>?_)
  ·have hr3:=hc3;(try simp only [hcs,Int.reduceToNat] at hc3)
   refine hw_region<|sm ?_
   refine s0 hsi ?_
   refine sa<|snl h20<|srg fun N h22=>sm ?_
   refine s0 hqi ?_
   refine sm ?_
   refine gm 55 ?_
   refine stg 55 (fun hb=>hop_eql rfl rfl) rfl rfl rfl rfl rfl ?_
   refine hq_p 58 (hstep_or _ _ rfl rfl rfl) rfl rfl rfl ?_
   refine sa ?_
   refine nu ?_
   refine h22 _<|hw_region<|sm ?_
   refine s0 (hop_neq rfl rfl) ?_
   refine sm ?_
   refine gm 61 ?_
   refine stg 61 (fun hb=>hop_neq rfl rfl) rfl rfl rfl rfl rfl ?_
   refine hq_p 64 (hstep_and _ _ rfl rfl rfl) rfl rfl rfl ?_
   refine sa ?_
   refine nu ?_
   refine hq_block<|h10 _<|hw_region<|sm ?_
   refine s0 hai ?_
   refine sa<|hseq_nil ?_
   exact hL7 ((i+1,d - 1,(decide (kd l i=2)||decide (kd l i=4)),(!decide (kd l i=1)&&!decide (kd l i=3)))) _ _ (by (try dsimp only);exact ⟨hil,by omega,by rw [←hC,chk_step hil,if_neg hbad,if_neg hc2,if_pos hc3]⟩) (by (try dsimp only);omega) (hsub_of rfl (Nat.le_refl _) (tsr rfl (TmSub.cons rfl (by dsimp only;exact sb_int om) (TmSub.cons rfl (by dsimp only;exact sb_bool (by first | rfl | simp | (trace_state;rfl))) (TmSub.cons rfl (by dsimp only;exact sb_bool (by first | rfl | simp | (trace_state;rfl))) (TmSub.cons rfl (by dsimp only;exact sb_int om) TmSub.nil))))) HpSub.nil)
  have hr3:=hc3;(try simp only [hcs,Int.reduceToNat] at hc3)
  refine hw_skip<|h20 _<|srg fun N h23=>sm ?_
  refine s0 hqi ?_
  refine sm ?_
  refine gm 55 ?_
  refine stg 55 (fun hb=>hop_eql rfl rfl) rfl rfl rfl rfl rfl ?_
  refine hq_p 58 (hstep_or _ _ rfl rfl rfl) rfl rfl rfl ?_
  refine sa ?_
  refine nu ?_
  refine h23 _<|hw_region<|sm ?_
  refine s0 (hop_neq rfl rfl) ?_
  refine sm ?_
  refine gm 61 ?_
  refine stg 61 (fun hb=>hop_neq rfl rfl) rfl rfl rfl rfl rfl ?_
  refine hq_p 64 (hstep_and _ _ rfl rfl rfl) rfl rfl rfl ?_
  refine sa ?_
  refine nu ?_
  refine hq_block<|h10 _<|hw_region<|sm ?_
  refine s0 hai ?_
  refine sa<|hseq_nil ?_
  exact hL7 ((i+1,d,(decide (kd l i=2)||decide (kd l i=4)),(!decide (kd l i=1)&&!decide (kd l i=3)))) _ _ (by (try dsimp only);exact ⟨hil,by omega,by rw [←hC,chk_step hil,if_neg hbad,if_neg hc2,if_neg hc3]⟩) (by (try dsimp only);omega) (hsub_of rfl (Nat.le_refl _) (tsr rfl (TmSub.cons rfl (by dsimp only;exact sb_int om) (TmSub.cons rfl (by dsimp only;exact sb_bool (by first | rfl | simp | (trace_state;rfl))) (TmSub.cons rfl (by dsimp only;exact sb_bool (by first | rfl | simp | (trace_state;rfl))) (TmSub.cons rfl (by dsimp only;exact sb_int om) TmSub.nil))))) HpSub.nil)
 have hr0:=hc0;(try simp only [hcs,Int.reduceToNat] at hc0)
 refine hw_exit ?_
 refine hq_then_exit<|hq_then_exit<|hq_block_here<|h5 _<|srg fun N h24=>sm ?_
 refine s0 (hnl el_76) ?_
 refine s0 (hop_gtr rfl rfl) ?_
 refine sm ?_
 refine gm 68 ?_
 refine gm 68 ?_
 refine hq_g3 71 5 70 68 true false _ _ (fun hb hb2=>hop_move rfl) rfl rfl rfl rfl rfl pre0 rfl rfl rfl ?_
 refine hq_g3 72 5 70 68 true false _ _ (fun hb hb2=>hop_gtr rfl rfl) rfl rfl rfl rfl rfl pre0 rfl rfl rfl ?_
 refine hq_pg 73 (hstep_org (gi:=3) (j:=68) _ _ rfl rfl rfl rfl) rfl rfl rfl rfl ?_
 refine hq_p 74 (hstep_and _ _ rfl rfl rfl) rfl rfl rfl ?_
 refine sa<|sa ?_
 refine nu ?_
 refine h24 _<|hw_ret ?_
 refine hq_ret2 rfl (rval_tmp rfl) (rval_tmp rfl) [] rfl pre0 ?_
 rw [←hC,chk_end om];exact fz_t2 (.imm _) (fz_bool (by cases it <;> simp))
theorem shut_h (l:List Sg) (p:Nat) (hl:l.length≤1000) (hp:p≤l.length):HPure Tryz.prog 106 [sgsV l,intV p] (intV (shutAt l p 0)):=by
 refine hpure_of Tryz.func106 rfl kr _ _ _ rfl 35 rfl rfl (fun w F=>?_)
 refine srg fun N h1=>sa<|snl h1<|srg fun N h2=>sa<|snl h2<|hw_seq fun Nh3 h3=>srg fun N h4=>sm<|sa<|snl h4<|hw_block ?_
 refine hw_loopc (α:=Nat×Int) (fun x c=>⟨35,[(0,.v (sgsV l)),(1,.v (intV p)),(5,.v (intV x.2)),(6,.v (intV x.1))],[],c⟩) (fun x=>x.1≤l.length∧(-(x.1:Int)≤x.2∧x.2≤x.1)∧shutAt l x.1 x.2=shutAt l p 0) (fun x=>l.length - x.1) ((p,0)) (by exact ⟨hp,by omega,rfl⟩) (hsub_of rfl (Nat.le_refl _) tsa HpSub.nil) (fun x c hx NhL5 hL5=>?_)
 revert hx hL5;obtain ⟨i,d⟩:=x;intro hx hL5;dsimp only at hx hL5 ⊢
 obtain ⟨hi,hd,hC⟩:=hx
 refine hw_seq fun Nh6 h6=>srg fun N h7=>sm<|sm ?_
 refine s0 (hnl el_76) ?_
 refine s0 hli ?_
 refine snl h7 ?_
 refine wc (fun hc0=>?_) (fun hc0=>?_)
 ·have hr0:=hc0;(try simp only [hcs,Int.reduceToNat] at hc0)
  have hil:i < l.length:=om
  refine hw_skip<|h6 _<|hw_seq fun Nh8 h8=>hw_block<|hw_seq fun Nh9 h9=>srg fun N h10=>sm<|sm ?_
  refine s0 (hix el_76) ?_
  refine s0 (hop_fa_fp fd_80_0 rfl (nb rfl)) ?_
  refine s0 (HOp.val (v':=intV (kd l i)) (hlf ty_3) (by rw [kd_in hil];rfl)) ?_
  refine s0 hqi ?_
  refine snl h10 ?_
  refine wc (fun hc1=>?_) (fun hc1=>?_)
  ·have hr1:=hc1;(try simp only [hcs,Int.reduceToNat] at hc1)
   have hk1:kd l i=2:=hc1
   refine hw_region<|sm ?_
   refine s0 hai ?_
   refine sa<|snl h9<|hw_seq fun Nh11 h11=>srg fun N h12=>sm<|sm ?_
   refine s0 (hix el_76) ?_
   refine s0 (hop_fa_fp fd_80_0 rfl (nb rfl)) ?_
   refine s0 (HOp.val (v':=intV (kd l i)) (hlf ty_3) (by rw [kd_in hil];rfl)) ?_
   refine s0 hqi ?_
   refine snl h12 ?_
   refine wc (fun hc2=>?_) (fun hc2=>?_)
   ·have hr2:=hc2;(try simp only [hcs,Int.reduceToNat] at hc2)
    exfalso;omega
   have hr2:=hc2;(try simp only [hcs,Int.reduceToNat] at hc2)
   have hk2:¬ kd l i=3:=hc2
   refine hw_skip<|h11 _<|srg fun N h13=>sm ?_
   refine s0 hqi ?_
   refine snl h13 ?_
   refine wc (fun hc3=>?_) (fun hc3=>?_)
   ·have hr3:=hc3;(try simp only [hcs,Int.reduceToNat] at hc3)
    refine srg fun N h14=>sm<|sa<|snl h14<|hw_ret<|hq_block_ret<|hq_then_ret<|hq_then_ret<|hq_block_ret<|hq_then_ret ?_
    refine hq_ret1 rfl (rval_tmp rfl) [] rfl pre0 ?_
    rw [←hC,shut_step (d':=d+1) hil (by rw [if_pos hk1]),if_pos hc3];exact .imm _
   have hr3:=hc3;(try simp only [hcs,Int.reduceToNat] at hc3)
   refine hw_skip<|hq_block<|h8 _<|hw_region<|sm ?_
   refine s0 hai ?_
   refine sa<|hseq_nil ?_
   exact hL5 ((i+1,d+1)) _ _ (by (try dsimp only);exact ⟨hil,by omega,by rw [←hC,shut_step (d':=d+1) hil (by rw [if_pos hk1]),if_neg hc3]⟩) (by (try dsimp only);omega) (hsub_of rfl (Nat.le_refl _) (tsr rfl (tsr rfl (tsr rfl (TmSub.cons rfl (by dsimp only;exact sb_int om) TmSub.nil)))) HpSub.nil)
  have hr1:=hc1;(try simp only [hcs,Int.reduceToNat] at hc1)
  have hk1:¬ kd l i=2:=hc1
  refine hw_skip<|h9 _<|hw_seq fun Nh15 h15=>srg fun N h16=>sm<|sm ?_
  refine s0 (hix el_76) ?_
  refine s0 (hop_fa_fp fd_80_0 rfl (nb rfl)) ?_
  refine s0 (HOp.val (v':=intV (kd l i)) (hlf ty_3) (by rw [kd_in hil];rfl)) ?_
  refine s0 hqi ?_
  refine snl h16 ?_
  refine wc (fun hc2=>?_) (fun hc2=>?_)
  ·have hr2:=hc2;(try simp only [hcs,Int.reduceToNat] at hc2)
   have hk2:kd l i=3:=hc2
   refine hw_region<|sm ?_
   refine s0 hsi ?_
   refine sa<|snl h15<|srg fun N h17=>sm ?_
   refine s0 hqi ?_
   refine snl h17 ?_
   refine wc (fun hc3=>?_) (fun hc3=>?_)
   ·have hr3:=hc3;(try simp only [hcs,Int.reduceToNat] at hc3)
    refine srg fun N h18=>sm<|sa<|snl h18<|hw_ret<|hq_block_ret<|hq_then_ret<|hq_then_ret<|hq_block_ret<|hq_then_ret ?_
    refine hq_ret1 rfl (rval_tmp rfl) [] rfl pre0 ?_
    rw [←hC,shut_step (d':=d - 1) hil (by rw [if_neg hk1,if_pos hk2]),if_pos hc3];exact .imm _
   have hr3:=hc3;(try simp only [hcs,Int.reduceToNat] at hc3)
   refine hw_skip<|hq_block<|h8 _<|hw_region<|sm ?_
   refine s0 hai ?_
   refine sa<|hseq_nil ?_
   exact hL5 ((i+1,d - 1)) _ _ (by (try dsimp only);exact ⟨hil,by omega,by rw [←hC,shut_step (d':=d - 1) hil (by rw [if_neg hk1,if_pos hk2]),if_neg hc3]⟩) (by (try dsimp only);omega) (hsub_of rfl (Nat.le_refl _) (tsr rfl (tsr rfl (tsr rfl (TmSub.cons rfl (by dsimp only;exact sb_int om) TmSub.nil)))) HpSub.nil)
  have hr2:=hc2;(try simp only [hcs,Int.reduceToNat] at hc2)
  have hk2:¬ kd l i=3:=hc2
  refine hw_skip<|h15 _<|srg fun N h19=>sm ?_
  refine s0 hqi ?_
  refine snl h19 ?_
  refine wc (fun hc3=>?_) (fun hc3=>?_)
  ·have hr3:=hc3;(try simp only [hcs,Int.reduceToNat] at hc3)
   refine srg fun N h20=>sm<|sa<|snl h20<|hw_ret<|hq_block_ret<|hq_then_ret<|hq_then_ret<|hq_block_ret<|hq_then_ret ?_
   refine hq_ret1 rfl (rval_tmp rfl) [] rfl pre0 ?_
   rw [←hC,shut_step (d':=d) hil (by rw [if_neg hk1,if_neg hk2]),if_pos hc3];exact .imm _
  have hr3:=hc3;(try simp only [hcs,Int.reduceToNat] at hc3)
  refine hw_skip<|hq_block<|h8 _<|hw_region<|sm ?_
  refine s0 hai ?_
  refine sa<|hseq_nil ?_
  exact hL5 ((i+1,d)) _ _ (by (try dsimp only);exact ⟨hil,by omega,by rw [←hC,shut_step (d':=d) hil (by rw [if_neg hk1,if_neg hk2]),if_neg hc3]⟩) (by (try dsimp only);omega) (hsub_of rfl (Nat.le_refl _) (tsr rfl (tsr rfl (tsr rfl (TmSub.cons rfl (by dsimp only;exact sb_int om) TmSub.nil)))) HpSub.nil)
 have hr0:=hc0;(try simp only [hcs,Int.reduceToNat] at hc0)
 refine hw_exit ?_
 refine hq_then_exit<|hq_then_exit<|hq_block_here<|h3 _<|srg fun N h21=>sm ?_
 refine s0 (hnl el_76) ?_
 refine sa<|snl h21<|hw_ret ?_
 refine hq_ret1 rfl (rval_tmp rfl) [] rfl pre0 ?_
 rw [←hC,shut_end om,show i=l.length by omega];exact .imm _
theorem cuts_h (l:List Sg) (p q:Nat) (way:Int) (hl:l.length≤1000) (hq:q≤l.length) (hp:p≤q):HPure Tryz.prog 95 [sgsV l,intV p,intV q,intV way] (kidsV (cutAt l p q way p [(p:Int)]++[(q:Int)])):=by
 refine hpure_of Tryz.func95 rfl kr _ _ _ rfl 64 rfl rfl (fun w F=>?_)
 refine srg fun N h1=>sa<|snl h1<|srg fun N h2=>sm ?_
 refine hm_1 13 (hop_buildSlice (id:=13) (hs:=[_]) ei_25 (nb rfl) rfl (nb rfl) ⟨rfl,rfl,rfl,rfl,trivial⟩) rfl rfl pre0 rfl rfl (c':=1) rfl ?_
 refine sa<|snl h2<|hw_seq fun Nh3 h3=>srg fun N h4=>sm<|sa<|snl h4<|hw_block ?_
 refine hw_loopc (α:=Nat×List Int×Nat) (fun x c=>⟨64,[(0,.v (sgsV l)),(1,.v (intV p)),(2,.v (intV q)),(3,.v (intV way)),(9,.v (.os 13 x.2.2 0 x.2.1.length)),(10,.v (intV x.1))],[(13,⟨x.2.2,x.2.1.length,1,3,0,kidsF x.2.1⟩)],c⟩) (fun x=>p≤x.1∧x.1≤l.length+1∧x.2.1.length≤2 * (x.1 - p)+1∧cutAt l p q way x.1 x.2.1=cutAt l p q way p [(p:Int)]) (fun x=>q - x.1) ((p,[(p:Int)],0)) (by exact ⟨Nat.le_refl _,by omega,by show 1≤_;omega,rfl⟩) (hsub_of rfl (Nat.le_refl _) tsa (HpSub.cons rfl (OSub.of fun i j hi hj=>by obtain rfl:i=0:=om;exact .refl _) HpSub.nil)) (fun x c hx NhL5 hL5=>?_)
 revert hx hL5;obtain ⟨i,acc,g⟩:=x;intro hx hL5;dsimp only at hx hL5 ⊢
 obtain ⟨hpi,hi,hal,hC⟩:=hx
 refine hw_seq fun Nh6 h6=>srg fun N h7=>sm<|sm ?_
 refine s0 hli ?_
 refine snl h7 ?_
 refine wc (fun hc0=>?_) (fun hc0=>?_)
 ·have hr0:=hc0;(try simp only [hcs,Int.reduceToNat] at hc0)
  have hiq:i < q:=om;have hsl:=shut_le (l:=l) (d:=0) (n:=l.length - i) (i:=i) rfl om
  refine hw_skip<|h6 _<|hw_seq fun Nh8 h8=>hw_block<|srg fun N h9=>sm<|sm ?_
  refine s0 (hix el_76) ?_
  refine s0 (hop_fa_fp fd_80_0 rfl (nb rfl)) ?_
  refine s0 (HOp.val (v':=intV (kd l i)) (hlf ty_3) (by rw [kd_in (show i < l.length by omega)];rfl)) ?_
  refine sa<|snl h9<|hw_seq fun Nh10 h10=>srg fun N h11=>sm ?_
  refine s0 hqi ?_
  refine sm ?_
  refine gm 27 ?_
  refine gm 27 ?_
  refine stg 27 (fun hb=>hop_gtr rfl rfl) rfl rfl rfl rfl rfl ?_
  refine hq_p 31 (hstep_and _ _ rfl rfl rfl) rfl rfl rfl ?_
  refine sm ?_
  refine gm 32 ?_
  refine stg 32 (fun hb=>hop_eql rfl rfl) rfl rfl rfl rfl rfl ?_
  refine gm 32 ?_
  refine hq_g3 36 10 35 32 true false _ _ (fun hb hb2=>hop_move rfl) rfl rfl rfl rfl rfl pre0 rfl rfl rfl ?_
  refine hq_g3 37 10 35 32 true false _ _ (fun hb hb2=>hop_eql rfl rfl) rfl rfl rfl rfl rfl pre0 rfl rfl rfl ?_
  refine hq_pg 38 (hstep_org (gi:=7) (j:=32) _ _ rfl rfl rfl rfl) rfl rfl rfl rfl ?_
  refine hq_p 39 (hstep_and _ _ rfl rfl rfl) rfl rfl rfl ?_
  refine nu ?_
  refine h11 _ ?_
  refine wc (fun hc1=>?_) (fun hc1=>?_)
  ·have hr1:=hc1;(try simp only [hcs,Int.reduceToNat] at hc1)
   have h1:way=2∧p < i∧(kd l i=1∨kd l i=2):=(by have h:=hr1;simp at h;omega)
   refine hw_region<|sm<|sm ?_
   refine hm_1 42 (hop_buildSlice (id:=42) (hs:=[_]) ei_25 (nb rfl) rfl (nb rfl) ⟨rfl,rfl,rfl,rfl,trivial⟩) rfl rfl pre0 rfl rfl (c':=c+1) rfl ?_
   refine hm_1 43 (hol_append ei_25 (nb rfl) rfl om (nb rfl) (srl_os0 rfl (nb rfl)) om rfl) rfl rfl (preC rfl (pre1 rfl)) rfl rfl (c':=c+2) rfl ?_
   refine sa<|snl h10<|hw_seq fun Nh12 h12=>srg fun N h13=>sm ?_
   refine s0 hqi ?_
   refine sm ?_
   refine gm 46 ?_
   refine stg 46 (fun hb=>hop_eql rfl rfl) rfl rfl rfl rfl rfl ?_
   refine hq_p 49 (hstep_and _ _ rfl rfl rfl) rfl rfl rfl ?_
   refine nu ?_
   refine h13 _ ?_
   refine wc (fun hc2=>?_) (fun hc2=>?_)
   ·have hr2:=hc2;(try simp only [hcs,Int.reduceToNat] at hc2)
    exfalso;have h:=hr2;simp at h;omega
   have hr2:=hc2;(try simp only [hcs,Int.reduceToNat] at hc2)
   have h2:¬ (way=3∧kd l i=4):=(by have h:=hr2;simp at h;omega)
   refine hw_skip<|h12 _<|srg fun N h14=>sm ?_
   refine s0 hqi ?_
   refine snl h14 ?_
   refine wc (fun hc3=>?_) (fun hc3=>?_)
   ·have hr3:=hc3;(try simp only [hcs,Int.reduceToNat] at hc3)
    have h3:kd l i=2:=hc3
    refine hw_region<|sm<|sm ?_
    refine s0 (hop_call0 (xs:=[_,_]) (shut_h l i hl om) ⟨rfl,⟨rfl,trivial⟩⟩ ⟨fe,⟨fe,trivial⟩⟩) ?_
    refine sa<|hseq_nil<|hq_block<|h8 _<|hw_region<|sm ?_
    refine s0 hai ?_
    refine sa<|hseq_nil ?_
    exact hL5 ((shutAt l i 0+1,acc++[(i:Int)],c+1)) _ _ (by (try dsimp only);exact ⟨by omega,by omega,by rw [List.length_append];show acc.length+1≤_;omega,by rw [←hC];exact (cut_step (a1:=acc++[(i:Int)]) (a2:=acc++[(i:Int)]) (j:=shutAt l i 0) hq hiq (by rw [if_pos h1]) (by rw [if_neg h2]) (by rw [if_pos h3])).symm⟩) (by (try dsimp only);omega) (hsub_of rfl (Nat.le_refl _) (tsr rfl (tsr rfl (tsr rfl (tsr rfl (TmSub.cons rfl (sb_os (by simp)) tsa))))) (HpSub.cons rfl (osub_snoc (enc:=fun x _=>intV x) (d:=0) rfl (fun i j _ _=>.refl _) (fun j hj=>.refl _)) HpSub.nil))
   have hr3:=hc3;(try simp only [hcs,Int.reduceToNat] at hc3)
   have h3:¬ kd l i=2:=hc3
   refine hw_skip<|hq_block<|h8 _<|hw_region<|sm ?_
   refine s0 hai ?_
   refine sa<|hseq_nil ?_
   exact hL5 ((i+1,acc++[(i:Int)],c+1)) _ _ (by (try dsimp only);exact ⟨by omega,by omega,by rw [List.length_append];show acc.length+1≤_;omega,by rw [←hC];exact (cut_step (a1:=acc++[(i:Int)]) (a2:=acc++[(i:Int)]) (j:=i) hq hiq (by rw [if_pos h1]) (by rw [if_neg h2]) (by rw [if_neg h3])).symm⟩) (by (try dsimp only);omega) (hsub_of rfl (Nat.le_refl _) (tsr rfl (tsr rfl (tsr rfl (tsr rfl (TmSub.cons rfl (sb_os (by simp)) tsa))))) (HpSub.cons rfl (osub_snoc (enc:=fun x _=>intV x) (d:=0) rfl (fun i j _ _=>.refl _) (fun j hj=>.refl _)) HpSub.nil))
  have hr1:=hc1;(try simp only [hcs,Int.reduceToNat] at hc1)
  have h1:¬ (way=2∧p < i∧(kd l i=1∨kd l i=2)):=(by have h:=hr1;simp at h;omega)
  refine hw_skip<|h10 _<|hw_seq fun Nh15 h15=>srg fun N h16=>sm ?_
  refine s0 hqi ?_
  refine sm ?_
  refine gm 46 ?_
  refine stg 46 (fun hb=>hop_eql rfl rfl) rfl rfl rfl rfl rfl ?_
  refine hq_p 49 (hstep_and _ _ rfl rfl rfl) rfl rfl rfl ?_
  refine nu ?_
  refine h16 _ ?_
  refine wc (fun hc2=>?_) (fun hc2=>?_)
  ·have hr2:=hc2;(try simp only [hcs,Int.reduceToNat] at hc2)
   have h2:way=3∧kd l i=4:=(by have h:=hr2;simp at h;omega)
   refine hw_region<|sm<|sm ?_
   refine s0 hai ?_
   refine hm_1 53 (hop_buildSlice (id:=53) (hs:=[_]) ei_25 (nb rfl) rfl (nb rfl) ⟨rfl,rfl,rfl,rfl,trivial⟩) rfl rfl pre0 rfl rfl (c':=c+1) rfl ?_
   refine hm_1 54 (hol_append ei_25 (nb rfl) rfl om (nb rfl) (srl_os0 rfl (nb rfl)) om rfl) rfl rfl (preC rfl (pre1 rfl)) rfl rfl (c':=c+2) rfl ?_
   refine sa<|snl h15<|srg fun N h17=>sm ?_
   refine s0 hqi ?_
   refine snl h17 ?_
   refine wc (fun hc3=>?_) (fun hc3=>?_)
   ·have hr3:=hc3;(try simp only [hcs,Int.reduceToNat] at hc3)
    exfalso;omega
   have hr3:=hc3;(try simp only [hcs,Int.reduceToNat] at hc3)
   have h3:¬ kd l i=2:=hc3
   refine hw_skip<|hq_block<|h8 _<|hw_region<|sm ?_
   refine s0 hai ?_
   refine sa<|hseq_nil ?_
   exact hL5 ((i+1,acc++[((i+1:Nat):Int)],c+1)) _ _ (by (try dsimp only);exact ⟨by omega,by omega,by rw [List.length_append];show acc.length+1≤_;omega,by rw [←hC];exact (cut_step (a1:=acc) (a2:=acc++[((i+1:Nat):Int)]) (j:=i) hq hiq (by rw [if_neg h1]) (by rw [if_pos h2]) (by rw [if_neg h3])).symm⟩) (by (try dsimp only);omega) (hsub_of rfl (Nat.le_refl _) (tsr rfl (tsr rfl (tsr rfl (tsr rfl (TmSub.cons rfl (sb_os (by simp)) tsa))))) (HpSub.cons rfl (osub_snoc (enc:=fun x _=>intV x) (d:=0) rfl (fun i j _ _=>.refl _) (fun j hj=>.refl _)) HpSub.nil))
  have hr2:=hc2;(try simp only [hcs,Int.reduceToNat] at hc2)
  have h2:¬ (way=3∧kd l i=4):=(by have h:=hr2;simp at h;omega)
  refine hw_skip<|h15 _<|srg fun N h18=>sm ?_
  refine s0 hqi ?_
  refine snl h18 ?_
  refine wc (fun hc3=>?_) (fun hc3=>?_)
  ·have hr3:=hc3;(try simp only [hcs,Int.reduceToNat] at hc3)
   have h3:kd l i=2:=hc3
   refine hw_region<|sm<|sm ?_
   refine s0 (hop_call0 (xs:=[_,_]) (shut_h l i hl om) ⟨rfl,⟨rfl,trivial⟩⟩ ⟨fe,⟨fe,trivial⟩⟩) ?_
   refine sa<|hseq_nil<|hq_block<|h8 _<|hw_region<|sm ?_
   refine s0 hai ?_
   refine sa<|hseq_nil ?_
   exact hL5 ((shutAt l i 0+1,acc,g)) _ _ (by (try dsimp only);exact ⟨by omega,by omega,by omega,by rw [←hC];exact (cut_step (a1:=acc) (a2:=acc) (j:=shutAt l i 0) hq hiq (by rw [if_neg h1]) (by rw [if_neg h2]) (by rw [if_pos h3])).symm⟩) (by (try dsimp only);omega) (hsub_of rfl (Nat.le_refl _) tsa hsa)
  have hr3:=hc3;(try simp only [hcs,Int.reduceToNat] at hc3)
  have h3:¬ kd l i=2:=hc3
  refine hw_skip<|hq_block<|h8 _<|hw_region<|sm ?_
  refine s0 hai ?_
  refine sa<|hseq_nil ?_
  exact hL5 ((i+1,acc,g)) _ _ (by (try dsimp only);exact ⟨by omega,by omega,by omega,by rw [←hC];exact (cut_step (a1:=acc) (a2:=acc) (j:=i) hq hiq (by rw [if_neg h1]) (by rw [if_neg h2]) (by rw [if_neg h3])).symm⟩) (by (try dsimp only);omega) (hsub_of rfl (Nat.le_refl _) tsa hsa)
 have hr0:=hc0;(try simp only [hcs,Int.reduceToNat] at hc0)
 refine hw_exit ?_
 refine hq_then_exit<|hq_then_exit<|hq_block_here<|h3 _<|hw_seq fun Nh19 h19=>?_
 have e:=cut_end (l:=l) (from_:=p) (way:=way) (acc:=acc) (show q≤i by omega);rw [e] at hC
 refine hw_region<|sm<|sm ?_
 refine hm_1 62 (hop_buildSlice (id:=62) (hs:=[_]) ei_25 (nb rfl) rfl (nb rfl) ⟨rfl,rfl,rfl,rfl,trivial⟩) rfl rfl pre0 rfl rfl (c':=c+1) rfl ?_
 refine hm_1 63 (hol_append ei_25 (nb rfl) rfl om (nb rfl) (srl_os0 rfl (nb rfl)) om rfl) rfl rfl (preC rfl (pre1 rfl)) rfl rfl (c':=c+2) rfl ?_
 refine sa<|snl h19<|hw_ret ?_
 refine hq_ret1 rfl (rval_tmp rfl) [(13,_)] rfl (preC rfl pre0) ?_
 rw [←hC];exact fz_row (l:=acc++[(q:Int)]) (enc:=fun x _=>intV x) (d:=0) (List.mem_cons_self ..) rfl (by simp) (by simp) (fun i j hi hj=>fz_snoc i hi)
end Go.Proofs.YtldjnmljnlhaaaaGreatDoor
