/-
  The document's reader of expressions: the parts of a stretch.
-/
import Derived.Test.YtldjnmljnlhaaaaGreatDoorEx4
import Derived.Test.YtldjnmljnlhaaaaGreatDoorNfaV
import Derived.Test.YtldjnmljnlhaaaaGreatDoorHbu
namespace Go.Proofs.YtldjnmljnlhaaaaGreatDoor
set_option linter.unusedSimpArgs false
set_option linter.unusedVariables false
set_option maxRecDepth 100000
set_option maxHeartbeats 4000000
open Go.RowKit
@[reducible] def pt2O (g:Nat) (l:List Pt):HObj:=⟨g,l.length,5,27,0,ptsF l⟩
@[reducible] def BdP (o:List Pt):HEnd→List (Nat×HObj)→Nat→Prop:=RetP (fun (_:Nat) _=>True) (fun g'=>.os 9003 g' 0 o.length) (fun g'=>[(9003,pt2O g' o)])
@[reducible] def BdC (l:List Sg) (p q:Nat) (t:T):Prop:=∀ c g (out:List Pt),out.length≤2 * p→HFun Tryz.prog 72 c [.os 9003 g 0 out.length,sgsV l,intV p,intV q] [(9003,pt2O g out)] (BdP (out++T.flat out.length t))
@[reducible] def BdN (l:List Sg) (p q:Nat) (t:T):Prop:=∀ c,HFun Tryz.prog 72 c [.imm (.slice none 0 0),sgsV l,intV p,intV q] [] (BdP (([]:List Pt)++T.flat 0 t))
theorem kz_os {kp sh:List (Nat×HObj)} {id g lo n n':Nat} {o:HObj} (h:hget kp id=some o) (hg:o.g=g) (hn:n=n'):Kz kp sh (.os id g lo n) (.os id g lo n'):=by subst hn;exact .os _ _ _ _ _ h hg
theorem okz_snoc {kp sh:List (Nat×HObj)} {o o':List Pt} {x:Pt} {g n ty:Nat} {f:Nat→Nat→HV} (hn:n=o.length) (ho:o++[x]=o') (h:∀ j,j < 5→Fz sh (f 0 j) (ptF x j)):OKz kp sh ⟨g,n+1,5,ty,0,cat n (ptsF o) f⟩ ⟨g,o'.length,5,ty,0,ptsF o'⟩:=by
 subst hn;subst ho
 refine ⟨rfl,by simp,rfl,rfl,Nat.le_refl _,fun i j hi hj=>.fz _ _ ?_,fun h=>absurd h (Nat.not_lt_zero _)⟩
 show Fz sh (cat o.length (ptsF o) f i j) (ptF ((o++[x]).getD i default) j)
 by_cases h':i < o.length
 ·rw [cat_lt h',getD_app h'];exact pt_fz _ j
 ·have hi':i=o.length:=by simp only at hi;omega
  subst hi'
  rw [cat_ge (Nat.le_refl _),Nat.sub_self,getD_snoc];exact h j hj
theorem fz_pt {sh:List (Nat×HObj)} {x:Pt} {f:Nat→HV} (h0:Fz sh (f 0) (ptF x 0)) (h1:Fz sh (f 1) (ptF x 1)) (h2:Fz sh (f 2) (ptF x 2)) (h3:Fz sh (f 3) (ptF x 3)) (h4:Fz sh (f 4) (ptF x 4)):∀ j,j < 5→Fz sh (f j) (ptF x j):=fun j hj=>by
 match j,hj with
 | 0,_=>exact h0
 | 1,_=>exact h1
 | 2,_=>exact h2
 | 3,_=>exact h3
 | 4,_=>exact h4
theorem fz_kids {sh:List (Nat×HObj)} {id g ty fl n:Nat} {ks:List Int} (hn:n=ks.length):Fz ((id,⟨g,n,1,ty,fl,kidsF ks⟩)::sh) (.os id g 0 n) (kidsV ks) :=
 fz_row (l:=ks) (enc:=fun x _=>intV x) (d:=0) (List.mem_cons_self ..) rfl hn (Nat.le_refl _) (fun i j hi hj=>.imm _)
theorem sg_at {l:List Sg} {q':Nat} {x:Int} (h:x=(q':Int)) (hq:q' < l.length):sgsF l x.toNat 0=intV (kd l q'):=by rw [h,Int.toNat_natCast,kd_in hq];rfl
@[reducible] def partW (k:Int) (gk n:Nat):Nat→Nat→HV:=fun _ j=>match j with | 0=>intV k | 1=>intV 0 | 2=>intV 0 | 3=>strV [] | _=>.os 7001 gk 0 n
theorem osub5 {g ty fl:Nat} {f f':Nat→Nat→HV} (h0:Sb (f 0 0) (f' 0 0)) (h1:Sb (f 0 1) (f' 0 1)) (h2:Sb (f 0 2) (f' 0 2)) (h3:Sb (f 0 3) (f' 0 3)) (h4:Sb (f 0 4) (f' 0 4)) (hfn:fl≤1:=by exact Nat.zero_le _):OSub ⟨g,1,5,ty,fl,f⟩ ⟨g,1,5,ty,fl,f'⟩:=.of (hfn:=hfn) fun i j hi hj=>by
 obtain rfl:i=0:=by omega
 match j,hj with | 0,_=>exact h0 | 1,_=>exact h1 | 2,_=>exact h2 | 3,_=>exact h3 | 4,_=>exact h4
theorem kids_at {B:List Int} {i j:Nat} {x:Int} (hj:j=i) (h:B.getD i 0=x):ldv false 1 (kidsF B j) 0=intV x:=by subst hj;show intV (B.getD j 0)=_;rw [h]
theorem take_snoc {ts:List T} {i:Nat} (h:i < ts.length):ts.take (i+1)=ts.take i++[ts.getD i default]:=by
 rw [List.take_add_one,List.getD_eq_getElem?_getD,List.getElem?_eq_getElem h];rfl
structure KidI (ts:List T) (out:List Pt) (i:Nat) (o:List Pt) (ks:List Int):Prop where
 le:i≤ts.length
 eo:o=out++T.flatL out.length (ts.take i)
 ek:ks=rootsL out.length (ts.take i)
theorem kid_next {ts:List T} {out o:List Pt} {i:Nat} {ks:List Int} (h:KidI ts out i o ks) (hi:i < ts.length):KidI ts out (i+1) (o++T.flat o.length (ts.getD i default)) (ks++[T.root o.length (ts.getD i default)]):=by
 have hl:o.length=out.length+T.sizeL (ts.take i):=by rw [h.eo,List.length_append,T.flatL_len]
 refine ⟨hi,?_,?_⟩
 ·rw [take_snoc hi,T.flatL_snoc,hl,h.eo,List.append_assoc]
 ·rw [take_snoc hi,rootsL_snoc,hl,h.ek]
theorem kid_len {ts:List T} {out o:List Pt} {i:Nat} {ks:List Int} (h:KidI ts out i o ks):o.length=out.length+T.sizeL (ts.take i)∧ks.length=i:=by
 refine ⟨by rw [h.eo,List.length_append,T.flatL_len],?_⟩
 rw [h.ek,rootsL_len,List.length_take];have:=h.le;omega
theorem kid_done {ts:List T} {out o:List Pt} {i:Nat} {ks:List Int} {k:Int} (h:KidI ts out i o ks) (hi:i=ts.length):o++[⟨k,0,0,[],ks⟩]=out++T.flat out.length (.many k ts):=by
 have h1:=h.eo;have h2:=h.ek
 rw [hi,List.take_length] at h1 h2
 rw [h1,h2];simp [T.flat]
structure Cuts (l:List Sg) (B:List Int) (m p q:Nat) (ts:List T) (s e:Nat→Nat):Prop where
 hlen:B.length=m+1
 hm:m=ts.length
 htwo:2≤m
 hmb:m≤2000
 hat:∀ i,i < m→B.getD i 0=(s i:Int)
 hle:∀ i,i < m→s i≤e i∧e i≤l.length
 hout:∀ i,i < m→T.sizeL (ts.take i)+2 * p≤2 * s i
 hsz:∀ i,i < m→(ts.getD i default).size+2 * s i≤2 * e i
 hall:T.sizeL ts+2 * p≤2 * q
theorem bd_name (l:List Sg) (p q:Nat) (hl:l.length≤1000) (h1:kd l p=1) (hq:q=p+1) (hql:q≤l.length) (hpq:p≤q) {v:Nat} (hv:v≤1) (hsg:Seg l v p q (.name (l.getD p default).name)):BdC l p q (.name (l.getD p default).name):=by
 intro c g out ho
 obtain ⟨cb,hcb⟩:∃ cb,cb=c:=⟨_,rfl⟩
 subst hcb
 refine hfun_of Tryz.func72 rfl kr _ _ _ _ rfl 126 rfl rfl (fun X ok hX=>?_)
 refine srg fun N h1=>sa<|snl h1<|hw_seq fun Nh2 h2=>srg fun N h3=>sa<|snl h3<|hw_block ?_
 refine hw_rounds 3 ?_
 refine hr_succ (fun NhU4 hU4=>?_)
 refine hw_seq fun Nh5 h5=>srg fun N h6=>sm ?_
 refine s0 (hop_geq rfl rfl) ?_
 refine snl h6 ?_
 refine wc (fun hc0=>?_) (fun hc0=>?_)
 ·have hr0:=hc0;(try simp only [hcs,Int.reduceToNat] at hc0)
  refine hw_skip<|h5 _<|hw_seq fun Nh7 h7=>hw_block<|srg fun N h8=>sm<|sm<|sm<|sm ?_
  refine s0 (hop_call0 (xs:=[_,_,_,_]) ((show HPure Tryz.prog 95 [sgsV l,intV p,intV q,intV 3] (kidsV [(p:Int),(q:Int)]) from (by rw [←cuts_item hsg hv];exact cuts_h l p q 3 hl hql hpq))) ⟨rfl,⟨rfl,⟨rfl,⟨rfl,trivial⟩⟩⟩⟩ ⟨fe,⟨fe,⟨fe,⟨fe,trivial⟩⟩⟩⟩) ?_
  refine sa<|snl h8<|hw_seq fun Nh9 h9=>srg fun N h10=>sm ?_
  refine s0 (hnl el_25) ?_
  refine s0 hqi ?_
  refine snl h10 ?_
  refine wc (fun hc1=>?_) (fun hc1=>?_)
  ·have hr1:=hc1;(try simp only [hcs,Int.reduceToNat] at hc1)
   refine hw_exit ?_
   refine hq_then_exit<|hq_block_here<|h7 _<|hw_region<|sm ?_
   refine s0 hsi ?_
   refine sa<|hseq_nil ?_
   refine hU4 _ ?_
   refine hr_succ (fun NhU11 hU11=>?_)
   refine hw_seq fun Nh12 h12=>srg fun N h13=>sm ?_
   refine s0 (hop_geq rfl rfl) ?_
   refine snl h13 ?_
   refine wc (fun hc0=>?_) (fun hc0=>?_)
   ·have hr0:=hc0;(try simp only [hcs,Int.reduceToNat] at hc0)
    refine hw_skip<|h12 _<|hw_seq fun Nh14 h14=>hw_block<|srg fun N h15=>sm<|sm<|sm<|sm ?_
    refine s0 (hop_call0 (xs:=[_,_,_,_]) ((show HPure Tryz.prog 95 [sgsV l,intV p,intV q,intV 2] (kidsV [(p:Int),(q:Int)]) from (by rw [←cuts_item hsg hv];exact cuts_h l p q 2 hl hql hpq))) ⟨rfl,⟨rfl,⟨rfl,⟨rfl,trivial⟩⟩⟩⟩ ⟨fe,⟨fe,⟨fe,⟨fe,trivial⟩⟩⟩⟩) ?_
    refine sa<|snl h15<|hw_seq fun Nh16 h16=>srg fun N h17=>sm ?_
    refine s0 (hnl el_25) ?_
    refine s0 hqi ?_
    refine snl h17 ?_
    refine wc (fun hc1=>?_) (fun hc1=>?_)
    ·have hr1:=hc1;(try simp only [hcs,Int.reduceToNat] at hc1)
     refine hw_exit ?_
     refine hq_then_exit<|hq_block_here<|h14 _<|hw_region<|sm ?_
     refine s0 hsi ?_
     refine sa<|hseq_nil ?_
     refine hU11 _ ?_
     refine hr_succ (fun NhU18 hU18=>?_)
     refine hw_seq fun Nh19 h19=>srg fun N h20=>sm ?_
     refine s0 (hop_geq rfl rfl) ?_
     refine snl h20 ?_
     refine wc (fun hc0=>?_) (fun hc0=>?_)
     ·have hr0:=hc0;(try simp only [hcs,Int.reduceToNat] at hc0)
      exfalso;simp at hr0
     have hr0:=hc0;(try simp only [hcs,Int.reduceToNat] at hc0)
     refine hw_exit ?_
     refine hq_then_exit<|hq_then_exit<|hq_block_here<|h2 _<|hw_seq fun Nh21 h21=>srg fun N h22=>sm<|sm ?_
     refine s0 hsi ?_
     refine s0 (hix el_76) ?_
     refine s0 (hop_fa_fp fd_80_0 rfl (nb rfl)) ?_
     refine s0 (HOp.val (v':=intV (kd l p)) (hop_load_fp ty_3 rfl (nb rfl) (fun h=>(by rfl))) (sg_at (by omega) (by omega))) ?_
     refine s0 hqi ?_
     refine snl h22 ?_
     refine wc (fun hc4=>?_) (fun hc4=>?_)
     ·have hr4:=hc4;(try simp only [hcs,Int.reduceToNat] at hc4)
      exfalso;omega
     have hr4:=hc4;(try simp only [hcs,Int.reduceToNat] at hc4)
     refine hw_skip<|h21 _<|hw_seq fun Nh23 h23=>srg fun N h24=>sm<|sm ?_
     refine s0 (hix el_76) ?_
     refine s0 (hop_fa_fp fd_80_0 rfl (nb rfl)) ?_
     refine s0 (HOp.val (v':=intV (kd l p)) (hop_load_fp ty_3 rfl (nb rfl) (fun h=>(by rfl))) (sg_at (by omega) (by omega))) ?_
     refine s0 hqi ?_
     refine snl h24 ?_
     refine wc (fun hc5=>?_) (fun hc5=>?_)
     ·have hr5:=hc5;(try simp only [hcs,Int.reduceToNat] at hc5)
      exfalso;omega
     have hr5:=hc5;(try simp only [hcs,Int.reduceToNat] at hc5)
     refine hw_skip<|h23 _<|srg fun N h25=>sm<|sm<|sm ?_
     refine s0 (hix el_76) ?_
     refine s0 (hop_fa_fp fd_80_4 rfl (nb rfl)) ?_
     refine s0 (hlf ty_9) ?_
     refine s0 (hop_build (hs:=[(0,1,_),(3,1,_)]) st_27 rfl rfl ⟨rfl,rfl,rfl,rfl,rfl,⟨rfl,rfl,rfl,rfl,rfl,trivial⟩⟩) ?_
     refine hm_1 124 (hop_buildSlice (id:=124) (hs:=[_]) ei_22 (nb rfl) rfl (nb rfl) ⟨rfl,rfl,rfl,rfl,trivial⟩) rfl rfl pre0 rfl rfl (c':=cb+1) rfl ?_
     refine hm_1 125 (hol_append ei_22 (nb rfl) rfl om (nb rfl) (srl_os0 rfl (nb rfl)) om rfl) rfl rfl (preC rfl (pre1 rfl)) rfl rfl (c':=cb+2) rfl ?_
     refine sa<|snl h25<|hw_ret ?_
     refine hf_retR1 ok hX RetS.one rfl (rval_tmp rfl) [] rfl pre0 (_) (trivial) (by rfl) (by rfl) (kz_os rfl rfl (by simp [T.flat])) ?_
     exact ⟨⟨_,rfl,okz_snoc (o:=out) (x:=⟨1,0,0,(l.getD p default).name,[]⟩) rfl (by simp [T.flat]) (fz_pt (.imm _) (.imm _) (.imm _) (.imm _) (.nil 0 1 _ (by decide) none))⟩,trivial⟩
    have hr1:=hc1;(try simp only [hcs,Int.reduceToNat] at hc1)
    exfalso;simp at hr1
   have hr0:=hc0;(try simp only [hcs,Int.reduceToNat] at hc0)
   exfalso;simp at hr0
  have hr1:=hc1;(try simp only [hcs,Int.reduceToNat] at hc1)
  exfalso;simp at hr1
 have hr0:=hc0;(try simp only [hcs,Int.reduceToNat] at hc0)
 exfalso;simp at hr0
theorem bd_nameN (l:List Sg) (p q:Nat) (hl:l.length≤1000) (h1:kd l p=1) (hq:q=p+1) (hql:q≤l.length) (hpq:p≤q) {v:Nat} (hv:v≤1) (hsg:Seg l v p q (.name (l.getD p default).name)):BdN l p q (.name (l.getD p default).name):=by
 intro c
 obtain ⟨cb,hcb⟩:∃ cb,cb=c+1:=⟨_,rfl⟩
 have ho:([]:List Pt).length≤2 * p:=Nat.zero_le _
 refine hfun_of Tryz.func72 rfl kr _ _ _ _ rfl 126 rfl rfl (fun X ok hX=>?_)
 refine hw_seq (fun Nh1 h1=>?_)
 refine hw_own 0 9003 5 27 (ptsF []) rfl (by decide) rfl (c':=cb) hcb.symm ?_
 refine hw_region<|sa<|snl h1<|hw_seq fun Nh2 h2=>srg fun N h3=>sa<|snl h3<|hw_block ?_
 refine hw_rounds 3 ?_
 refine hr_succ (fun NhU4 hU4=>?_)
 refine hw_seq fun Nh5 h5=>srg fun N h6=>sm ?_
 refine s0 (hop_geq rfl rfl) ?_
 refine snl h6 ?_
 refine wc (fun hc0=>?_) (fun hc0=>?_)
 ·have hr0:=hc0;(try simp only [hcs,Int.reduceToNat] at hc0)
  refine hw_skip<|h5 _<|hw_seq fun Nh7 h7=>hw_block<|srg fun N h8=>sm<|sm<|sm<|sm ?_
  refine s0 (hop_call0 (xs:=[_,_,_,_]) ((show HPure Tryz.prog 95 [sgsV l,intV p,intV q,intV 3] (kidsV [(p:Int),(q:Int)]) from (by rw [←cuts_item hsg hv];exact cuts_h l p q 3 hl hql hpq))) ⟨rfl,⟨rfl,⟨rfl,⟨rfl,trivial⟩⟩⟩⟩ ⟨fe,⟨fe,⟨fe,⟨fe,trivial⟩⟩⟩⟩) ?_
  refine sa<|snl h8<|hw_seq fun Nh9 h9=>srg fun N h10=>sm ?_
  refine s0 (hnl el_25) ?_
  refine s0 hqi ?_
  refine snl h10 ?_
  refine wc (fun hc1=>?_) (fun hc1=>?_)
  ·have hr1:=hc1;(try simp only [hcs,Int.reduceToNat] at hc1)
   refine hw_exit ?_
   refine hq_then_exit<|hq_block_here<|h7 _<|hw_region<|sm ?_
   refine s0 hsi ?_
   refine sa<|hseq_nil ?_
   refine hU4 _ ?_
   refine hr_succ (fun NhU11 hU11=>?_)
   refine hw_seq fun Nh12 h12=>srg fun N h13=>sm ?_
   refine s0 (hop_geq rfl rfl) ?_
   refine snl h13 ?_
   refine wc (fun hc0=>?_) (fun hc0=>?_)
   ·have hr0:=hc0;(try simp only [hcs,Int.reduceToNat] at hc0)
    refine hw_skip<|h12 _<|hw_seq fun Nh14 h14=>hw_block<|srg fun N h15=>sm<|sm<|sm<|sm ?_
    refine s0 (hop_call0 (xs:=[_,_,_,_]) ((show HPure Tryz.prog 95 [sgsV l,intV p,intV q,intV 2] (kidsV [(p:Int),(q:Int)]) from (by rw [←cuts_item hsg hv];exact cuts_h l p q 2 hl hql hpq))) ⟨rfl,⟨rfl,⟨rfl,⟨rfl,trivial⟩⟩⟩⟩ ⟨fe,⟨fe,⟨fe,⟨fe,trivial⟩⟩⟩⟩) ?_
    refine sa<|snl h15<|hw_seq fun Nh16 h16=>srg fun N h17=>sm ?_
    refine s0 (hnl el_25) ?_
    refine s0 hqi ?_
    refine snl h17 ?_
    refine wc (fun hc1=>?_) (fun hc1=>?_)
    ·have hr1:=hc1;(try simp only [hcs,Int.reduceToNat] at hc1)
     refine hw_exit ?_
     refine hq_then_exit<|hq_block_here<|h14 _<|hw_region<|sm ?_
     refine s0 hsi ?_
     refine sa<|hseq_nil ?_
     refine hU11 _ ?_
     refine hr_succ (fun NhU18 hU18=>?_)
     refine hw_seq fun Nh19 h19=>srg fun N h20=>sm ?_
     refine s0 (hop_geq rfl rfl) ?_
     refine snl h20 ?_
     refine wc (fun hc0=>?_) (fun hc0=>?_)
     ·have hr0:=hc0;(try simp only [hcs,Int.reduceToNat] at hc0)
      exfalso;simp at hr0
     have hr0:=hc0;(try simp only [hcs,Int.reduceToNat] at hc0)
     refine hw_exit ?_
     refine hq_then_exit<|hq_then_exit<|hq_block_here<|h2 _<|hw_seq fun Nh21 h21=>srg fun N h22=>sm<|sm ?_
     refine s0 hsi ?_
     refine s0 (hix el_76) ?_
     refine s0 (hop_fa_fp fd_80_0 rfl (nb rfl)) ?_
     refine s0 (HOp.val (v':=intV (kd l p)) (hop_load_fp ty_3 rfl (nb rfl) (fun h=>(by rfl))) (sg_at (by omega) (by omega))) ?_
     refine s0 hqi ?_
     refine snl h22 ?_
     refine wc (fun hc4=>?_) (fun hc4=>?_)
     ·have hr4:=hc4;(try simp only [hcs,Int.reduceToNat] at hc4)
      exfalso;omega
     have hr4:=hc4;(try simp only [hcs,Int.reduceToNat] at hc4)
     refine hw_skip<|h21 _<|hw_seq fun Nh23 h23=>srg fun N h24=>sm<|sm ?_
     refine s0 (hix el_76) ?_
     refine s0 (hop_fa_fp fd_80_0 rfl (nb rfl)) ?_
     refine s0 (HOp.val (v':=intV (kd l p)) (hop_load_fp ty_3 rfl (nb rfl) (fun h=>(by rfl))) (sg_at (by omega) (by omega))) ?_
     refine s0 hqi ?_
     refine snl h24 ?_
     refine wc (fun hc5=>?_) (fun hc5=>?_)
     ·have hr5:=hc5;(try simp only [hcs,Int.reduceToNat] at hc5)
      exfalso;omega
     have hr5:=hc5;(try simp only [hcs,Int.reduceToNat] at hc5)
     refine hw_skip<|h23 _<|srg fun N h25=>sm<|sm<|sm ?_
     refine s0 (hix el_76) ?_
     refine s0 (hop_fa_fp fd_80_4 rfl (nb rfl)) ?_
     refine s0 (hlf ty_9) ?_
     refine s0 (hop_build (hs:=[(0,1,_),(3,1,_)]) st_27 rfl rfl ⟨rfl,rfl,rfl,rfl,rfl,⟨rfl,rfl,rfl,rfl,rfl,trivial⟩⟩) ?_
     refine hm_1 124 (hop_buildSlice (id:=124) (hs:=[_]) ei_22 (nb rfl) rfl (nb rfl) ⟨rfl,rfl,rfl,rfl,trivial⟩) rfl rfl pre0 rfl rfl (c':=cb+1) rfl ?_
     refine hm_1 125 (hol_append ei_22 (nb rfl) rfl (nb rfl) (nb rfl) (srl_os0 rfl (nb rfl)) (nb rfl) rfl) rfl rfl (preC rfl (pre1 rfl)) rfl rfl (c':=cb+2) rfl ?_
     refine sa<|snl h25<|hw_ret ?_
     refine hf_retR1 ok hX RetS.one rfl (rval_tmp rfl) [] rfl pre0 (_) (trivial) (by rfl) (by rfl) (kz_os rfl rfl (by simp [T.flat])) ?_
     exact ⟨⟨_,rfl,okz_snoc (o:=([]:List Pt)) (x:=⟨1,0,0,(l.getD p default).name,[]⟩) rfl (by simp [T.flat]) (fz_pt (.imm _) (.imm _) (.imm _) (.imm _) (.nil 0 1 _ (by decide) none))⟩,trivial⟩
    have hr1:=hc1;(try simp only [hcs,Int.reduceToNat] at hc1)
    exfalso;simp at hr1
   have hr0:=hc0;(try simp only [hcs,Int.reduceToNat] at hc0)
   exfalso;simp at hr0
  have hr1:=hc1;(try simp only [hcs,Int.reduceToNat] at hc1)
  exfalso;simp at hr1
 have hr0:=hc0;(try simp only [hcs,Int.reduceToNat] at hc0)
 exfalso;simp at hr0
theorem bd_group (l:List Sg) (p q:Nat) (hl:l.length≤1000) (q':Nat) (t:T) (h2:kd l p=2) (h3:kd l q'=3) (hpq1:p+1 < q') (hq:q=q'+1) (hql:q≤l.length) (hpq:p≤q) {v:Nat} (hv:v≤1) (hsg:Seg l v p q t) (ih:BdC l (p+1) q' t):BdC l p q t:=by
 intro c g out ho
 obtain ⟨cb,hcb⟩:∃ cb,cb=c:=⟨_,rfl⟩
 subst hcb
 refine hfun_of Tryz.func72 rfl kr _ _ _ _ rfl 126 rfl rfl (fun X ok hX=>?_)
 refine srg fun N h1=>sa<|snl h1<|hw_seq fun Nh2 h2=>srg fun N h3=>sa<|snl h3<|hw_block ?_
 refine hw_rounds 3 ?_
 refine hr_succ (fun NhU4 hU4=>?_)
 refine hw_seq fun Nh5 h5=>srg fun N h6=>sm ?_
 refine s0 (hop_geq rfl rfl) ?_
 refine snl h6 ?_
 refine wc (fun hc0=>?_) (fun hc0=>?_)
 ·have hr0:=hc0;(try simp only [hcs,Int.reduceToNat] at hc0)
  refine hw_skip<|h5 _<|hw_seq fun Nh7 h7=>hw_block<|srg fun N h8=>sm<|sm<|sm<|sm ?_
  refine s0 (hop_call0 (xs:=[_,_,_,_]) ((show HPure Tryz.prog 95 [sgsV l,intV p,intV q,intV 3] (kidsV [(p:Int),(q:Int)]) from (by rw [←cuts_item hsg hv];exact cuts_h l p q 3 hl hql hpq))) ⟨rfl,⟨rfl,⟨rfl,⟨rfl,trivial⟩⟩⟩⟩ ⟨fe,⟨fe,⟨fe,⟨fe,trivial⟩⟩⟩⟩) ?_
  refine sa<|snl h8<|hw_seq fun Nh9 h9=>srg fun N h10=>sm ?_
  refine s0 (hnl el_25) ?_
  refine s0 hqi ?_
  refine snl h10 ?_
  refine wc (fun hc1=>?_) (fun hc1=>?_)
  ·have hr1:=hc1;(try simp only [hcs,Int.reduceToNat] at hc1)
   refine hw_exit ?_
   refine hq_then_exit<|hq_block_here<|h7 _<|hw_region<|sm ?_
   refine s0 hsi ?_
   refine sa<|hseq_nil ?_
   refine hU4 _ ?_
   refine hr_succ (fun NhU11 hU11=>?_)
   refine hw_seq fun Nh12 h12=>srg fun N h13=>sm ?_
   refine s0 (hop_geq rfl rfl) ?_
   refine snl h13 ?_
   refine wc (fun hc0=>?_) (fun hc0=>?_)
   ·have hr0:=hc0;(try simp only [hcs,Int.reduceToNat] at hc0)
    refine hw_skip<|h12 _<|hw_seq fun Nh14 h14=>hw_block<|srg fun N h15=>sm<|sm<|sm<|sm ?_
    refine s0 (hop_call0 (xs:=[_,_,_,_]) ((show HPure Tryz.prog 95 [sgsV l,intV p,intV q,intV 2] (kidsV [(p:Int),(q:Int)]) from (by rw [←cuts_item hsg hv];exact cuts_h l p q 2 hl hql hpq))) ⟨rfl,⟨rfl,⟨rfl,⟨rfl,trivial⟩⟩⟩⟩ ⟨fe,⟨fe,⟨fe,⟨fe,trivial⟩⟩⟩⟩) ?_
    refine sa<|snl h15<|hw_seq fun Nh16 h16=>srg fun N h17=>sm ?_
    refine s0 (hnl el_25) ?_
    refine s0 hqi ?_
    refine snl h17 ?_
    refine wc (fun hc1=>?_) (fun hc1=>?_)
    ·have hr1:=hc1;(try simp only [hcs,Int.reduceToNat] at hc1)
     refine hw_exit ?_
     refine hq_then_exit<|hq_block_here<|h14 _<|hw_region<|sm ?_
     refine s0 hsi ?_
     refine sa<|hseq_nil ?_
     refine hU11 _ ?_
     refine hr_succ (fun NhU18 hU18=>?_)
     refine hw_seq fun Nh19 h19=>srg fun N h20=>sm ?_
     refine s0 (hop_geq rfl rfl) ?_
     refine snl h20 ?_
     refine wc (fun hc0=>?_) (fun hc0=>?_)
     ·have hr0:=hc0;(try simp only [hcs,Int.reduceToNat] at hc0)
      exfalso;simp at hr0
     have hr0:=hc0;(try simp only [hcs,Int.reduceToNat] at hc0)
     refine hw_exit ?_
     refine hq_then_exit<|hq_then_exit<|hq_block_here<|h2 _<|hw_seq fun Nh21 h21=>srg fun N h22=>sm<|sm ?_
     refine s0 hsi ?_
     refine s0 (hix el_76) ?_
     refine s0 (hop_fa_fp fd_80_0 rfl (nb rfl)) ?_
     refine s0 (HOp.val (v':=intV (kd l q')) (hop_load_fp ty_3 rfl (nb rfl) (fun h=>(by rfl))) (sg_at (by omega) (by omega))) ?_
     refine s0 hqi ?_
     refine snl h22 ?_
     refine wc (fun hc4=>?_) (fun hc4=>?_)
     ·have hr4:=hc4;(try simp only [hcs,Int.reduceToNat] at hc4)
      exfalso;omega
     have hr4:=hc4;(try simp only [hcs,Int.reduceToNat] at hc4)
     refine hw_skip<|h21 _<|hw_seq fun Nh23 h23=>srg fun N h24=>sm<|sm ?_
     refine s0 (hix el_76) ?_
     refine s0 (hop_fa_fp fd_80_0 rfl (nb rfl)) ?_
     refine s0 (HOp.val (v':=intV (kd l p)) (hop_load_fp ty_3 rfl (nb rfl) (fun h=>(by rfl))) (sg_at (by omega) (by omega))) ?_
     refine s0 hqi ?_
     refine snl h24 ?_
     refine wc (fun hc5=>?_) (fun hc5=>?_)
     ·have hr5:=hc5;(try simp only [hcs,Int.reduceToNat] at hc5)
      refine srg fun N h25=>sm<|sm<|sm ?_
      refine s0 (HOp.val (v':=intV ((p+1:Nat):Int)) (hop_addi rfl rfl rfl (by omega) (by omega)) (rfl)) ?_
      refine sm ?_
      refine s0 (HOp.val (v':=intV (q':Int)) (hop_subi rfl rfl rfl (by omega) (by omega)) (by rw [show (q:Int) - 1=(q':Int) by omega])) ?_
      refine hf_callR 116 (xs:=[_,_,_,_]) (pre:=[(9003,_)]) (ih _ g out om) ⟨rfl,⟨rfl,⟨rfl,⟨rfl,trivial⟩⟩⟩⟩ (preC rfl pre0) rfl rfl (fun g3 c1 hx1=>?_)
      (try dsimp only)
      refine sa<|snl h25<|hw_ret<|hq_then_ret ?_
      refine hf_retR1 ok hX RetS.one rfl (rval_tmp rfl) [] rfl pre0 (g3) (trivial) (by rfl) (by rfl) (kza) ?_
      exact ⟨⟨_,rfl,.of (fun i j _ _=>.fz _ _ (pt_fz _ j))⟩,trivial⟩
     have hr5:=hc5;(try simp only [hcs,Int.reduceToNat] at hc5)
     exfalso;omega
    have hr1:=hc1;(try simp only [hcs,Int.reduceToNat] at hc1)
    exfalso;simp at hr1
   have hr0:=hc0;(try simp only [hcs,Int.reduceToNat] at hc0)
   exfalso;simp at hr0
  have hr1:=hc1;(try simp only [hcs,Int.reduceToNat] at hc1)
  exfalso;simp at hr1
 have hr0:=hc0;(try simp only [hcs,Int.reduceToNat] at hc0)
 exfalso;simp at hr0
theorem bd_groupN (l:List Sg) (p q:Nat) (hl:l.length≤1000) (q':Nat) (t:T) (h2:kd l p=2) (h3:kd l q'=3) (hpq1:p+1 < q') (hq:q=q'+1) (hql:q≤l.length) (hpq:p≤q) {v:Nat} (hv:v≤1) (hsg:Seg l v p q t) (ih:BdC l (p+1) q' t):BdN l p q t:=by
 intro c
 obtain ⟨cb,hcb⟩:∃ cb,cb=c+1:=⟨_,rfl⟩
 have ho:([]:List Pt).length≤2 * p:=Nat.zero_le _
 refine hfun_of Tryz.func72 rfl kr _ _ _ _ rfl 126 rfl rfl (fun X ok hX=>?_)
 refine hw_seq (fun Nh1 h1=>?_)
 refine hw_own 0 9003 5 27 (ptsF []) rfl (by decide) rfl (c':=cb) hcb.symm ?_
 refine hw_region<|sa<|snl h1<|hw_seq fun Nh2 h2=>srg fun N h3=>sa<|snl h3<|hw_block ?_
 refine hw_rounds 3 ?_
 refine hr_succ (fun NhU4 hU4=>?_)
 refine hw_seq fun Nh5 h5=>srg fun N h6=>sm ?_
 refine s0 (hop_geq rfl rfl) ?_
 refine snl h6 ?_
 refine wc (fun hc0=>?_) (fun hc0=>?_)
 ·have hr0:=hc0;(try simp only [hcs,Int.reduceToNat] at hc0)
  refine hw_skip<|h5 _<|hw_seq fun Nh7 h7=>hw_block<|srg fun N h8=>sm<|sm<|sm<|sm ?_
  refine s0 (hop_call0 (xs:=[_,_,_,_]) ((show HPure Tryz.prog 95 [sgsV l,intV p,intV q,intV 3] (kidsV [(p:Int),(q:Int)]) from (by rw [←cuts_item hsg hv];exact cuts_h l p q 3 hl hql hpq))) ⟨rfl,⟨rfl,⟨rfl,⟨rfl,trivial⟩⟩⟩⟩ ⟨fe,⟨fe,⟨fe,⟨fe,trivial⟩⟩⟩⟩) ?_
  refine sa<|snl h8<|hw_seq fun Nh9 h9=>srg fun N h10=>sm ?_
  refine s0 (hnl el_25) ?_
  refine s0 hqi ?_
  refine snl h10 ?_
  refine wc (fun hc1=>?_) (fun hc1=>?_)
  ·have hr1:=hc1;(try simp only [hcs,Int.reduceToNat] at hc1)
   refine hw_exit ?_
   refine hq_then_exit<|hq_block_here<|h7 _<|hw_region<|sm ?_
   refine s0 hsi ?_
   refine sa<|hseq_nil ?_
   refine hU4 _ ?_
   refine hr_succ (fun NhU11 hU11=>?_)
   refine hw_seq fun Nh12 h12=>srg fun N h13=>sm ?_
   refine s0 (hop_geq rfl rfl) ?_
   refine snl h13 ?_
   refine wc (fun hc0=>?_) (fun hc0=>?_)
   ·have hr0:=hc0;(try simp only [hcs,Int.reduceToNat] at hc0)
    refine hw_skip<|h12 _<|hw_seq fun Nh14 h14=>hw_block<|srg fun N h15=>sm<|sm<|sm<|sm ?_
    refine s0 (hop_call0 (xs:=[_,_,_,_]) ((show HPure Tryz.prog 95 [sgsV l,intV p,intV q,intV 2] (kidsV [(p:Int),(q:Int)]) from (by rw [←cuts_item hsg hv];exact cuts_h l p q 2 hl hql hpq))) ⟨rfl,⟨rfl,⟨rfl,⟨rfl,trivial⟩⟩⟩⟩ ⟨fe,⟨fe,⟨fe,⟨fe,trivial⟩⟩⟩⟩) ?_
    refine sa<|snl h15<|hw_seq fun Nh16 h16=>srg fun N h17=>sm ?_
    refine s0 (hnl el_25) ?_
    refine s0 hqi ?_
    refine snl h17 ?_
    refine wc (fun hc1=>?_) (fun hc1=>?_)
    ·have hr1:=hc1;(try simp only [hcs,Int.reduceToNat] at hc1)
     refine hw_exit ?_
     refine hq_then_exit<|hq_block_here<|h14 _<|hw_region<|sm ?_
     refine s0 hsi ?_
     refine sa<|hseq_nil ?_
     refine hU11 _ ?_
     refine hr_succ (fun NhU18 hU18=>?_)
     refine hw_seq fun Nh19 h19=>srg fun N h20=>sm ?_
     refine s0 (hop_geq rfl rfl) ?_
     refine snl h20 ?_
     refine wc (fun hc0=>?_) (fun hc0=>?_)
     ·have hr0:=hc0;(try simp only [hcs,Int.reduceToNat] at hc0)
      exfalso;simp at hr0
     have hr0:=hc0;(try simp only [hcs,Int.reduceToNat] at hc0)
     refine hw_exit ?_
     refine hq_then_exit<|hq_then_exit<|hq_block_here<|h2 _<|hw_seq fun Nh21 h21=>srg fun N h22=>sm<|sm ?_
     refine s0 hsi ?_
     refine s0 (hix el_76) ?_
     refine s0 (hop_fa_fp fd_80_0 rfl (nb rfl)) ?_
     refine s0 (HOp.val (v':=intV (kd l q')) (hop_load_fp ty_3 rfl (nb rfl) (fun h=>(by rfl))) (sg_at (by omega) (by omega))) ?_
     refine s0 hqi ?_
     refine snl h22 ?_
     refine wc (fun hc4=>?_) (fun hc4=>?_)
     ·have hr4:=hc4;(try simp only [hcs,Int.reduceToNat] at hc4)
      exfalso;omega
     have hr4:=hc4;(try simp only [hcs,Int.reduceToNat] at hc4)
     refine hw_skip<|h21 _<|hw_seq fun Nh23 h23=>srg fun N h24=>sm<|sm ?_
     refine s0 (hix el_76) ?_
     refine s0 (hop_fa_fp fd_80_0 rfl (nb rfl)) ?_
     refine s0 (HOp.val (v':=intV (kd l p)) (hop_load_fp ty_3 rfl (nb rfl) (fun h=>(by rfl))) (sg_at (by omega) (by omega))) ?_
     refine s0 hqi ?_
     refine snl h24 ?_
     refine wc (fun hc5=>?_) (fun hc5=>?_)
     ·have hr5:=hc5;(try simp only [hcs,Int.reduceToNat] at hc5)
      refine srg fun N h25=>sm<|sm<|sm ?_
      refine s0 (HOp.val (v':=intV ((p+1:Nat):Int)) (hop_addi rfl rfl rfl (by omega) (by omega)) (rfl)) ?_
      refine sm ?_
      refine s0 (HOp.val (v':=intV (q':Int)) (hop_subi rfl rfl rfl (by omega) (by omega)) (by rw [show (q:Int) - 1=(q':Int) by omega])) ?_
      refine hf_callR 116 (xs:=[_,_,_,_]) (pre:=[(9003,_)]) (ih _ c ([]:List Pt) om) ⟨rfl,⟨rfl,⟨rfl,⟨rfl,trivial⟩⟩⟩⟩ (preC rfl pre0) rfl rfl (fun g3 c1 hx1=>?_)
      (try dsimp only)
      refine sa<|snl h25<|hw_ret<|hq_then_ret ?_
      refine hf_retR1 ok hX RetS.one rfl (rval_tmp rfl) [] rfl pre0 (g3) (trivial) (by rfl) (by rfl) (kza) ?_
      exact ⟨⟨_,rfl,.of (fun i j _ _=>.fz _ _ (pt_fz _ j))⟩,trivial⟩
     have hr5:=hc5;(try simp only [hcs,Int.reduceToNat] at hc5)
     exfalso;omega
    have hr1:=hc1;(try simp only [hcs,Int.reduceToNat] at hc1)
    exfalso;simp at hr1
   have hr0:=hc0;(try simp only [hcs,Int.reduceToNat] at hc0)
   exfalso;simp at hr0
  have hr1:=hc1;(try simp only [hcs,Int.reduceToNat] at hc1)
  exfalso;simp at hr1
 have hr0:=hc0;(try simp only [hcs,Int.reduceToNat] at hc0)
 exfalso;simp at hr0
theorem bd_times (l:List Sg) (p q:Nat) (hl:l.length≤1000) (q':Nat) (t:T) (h5:kd l q'=5) (hs0:Seg l 0 p q' t) (hpq1:p < q') (hq:q=q'+1) (hql:q≤l.length) (hpq:p≤q) {v:Nat} (hv:v≤1) (hsg:Seg l v p q (.times (l.getD q' default).low (l.getD q' default).high t)) (ih:BdC l p q' t):BdC l p q (.times (l.getD q' default).low (l.getD q' default).high t):=by
 intro c g out ho
 obtain ⟨cb,hcb⟩:∃ cb,cb=c:=⟨_,rfl⟩
 subst hcb
 refine hfun_of Tryz.func72 rfl kr _ _ _ _ rfl 126 rfl rfl (fun X ok hX=>?_)
 refine srg fun N h1=>sa<|snl h1<|hw_seq fun Nh2 h2=>srg fun N h3=>sa<|snl h3<|hw_block ?_
 refine hw_rounds 3 ?_
 refine hr_succ (fun NhU4 hU4=>?_)
 refine hw_seq fun Nh5 h5=>srg fun N h6=>sm ?_
 refine s0 (hop_geq rfl rfl) ?_
 refine snl h6 ?_
 refine wc (fun hc0=>?_) (fun hc0=>?_)
 ·have hr0:=hc0;(try simp only [hcs,Int.reduceToNat] at hc0)
  refine hw_skip<|h5 _<|hw_seq fun Nh7 h7=>hw_block<|srg fun N h8=>sm<|sm<|sm<|sm ?_
  refine s0 (hop_call0 (xs:=[_,_,_,_]) ((show HPure Tryz.prog 95 [sgsV l,intV p,intV q,intV 3] (kidsV [(p:Int),(q:Int)]) from (by rw [←cuts_item hsg hv];exact cuts_h l p q 3 hl hql hpq))) ⟨rfl,⟨rfl,⟨rfl,⟨rfl,trivial⟩⟩⟩⟩ ⟨fe,⟨fe,⟨fe,⟨fe,trivial⟩⟩⟩⟩) ?_
  refine sa<|snl h8<|hw_seq fun Nh9 h9=>srg fun N h10=>sm ?_
  refine s0 (hnl el_25) ?_
  refine s0 hqi ?_
  refine snl h10 ?_
  refine wc (fun hc1=>?_) (fun hc1=>?_)
  ·have hr1:=hc1;(try simp only [hcs,Int.reduceToNat] at hc1)
   refine hw_exit ?_
   refine hq_then_exit<|hq_block_here<|h7 _<|hw_region<|sm ?_
   refine s0 hsi ?_
   refine sa<|hseq_nil ?_
   refine hU4 _ ?_
   refine hr_succ (fun NhU11 hU11=>?_)
   refine hw_seq fun Nh12 h12=>srg fun N h13=>sm ?_
   refine s0 (hop_geq rfl rfl) ?_
   refine snl h13 ?_
   refine wc (fun hc0=>?_) (fun hc0=>?_)
   ·have hr0:=hc0;(try simp only [hcs,Int.reduceToNat] at hc0)
    refine hw_skip<|h12 _<|hw_seq fun Nh14 h14=>hw_block<|srg fun N h15=>sm<|sm<|sm<|sm ?_
    refine s0 (hop_call0 (xs:=[_,_,_,_]) ((show HPure Tryz.prog 95 [sgsV l,intV p,intV q,intV 2] (kidsV [(p:Int),(q:Int)]) from (by rw [←cuts_item hsg hv];exact cuts_h l p q 2 hl hql hpq))) ⟨rfl,⟨rfl,⟨rfl,⟨rfl,trivial⟩⟩⟩⟩ ⟨fe,⟨fe,⟨fe,⟨fe,trivial⟩⟩⟩⟩) ?_
    refine sa<|snl h15<|hw_seq fun Nh16 h16=>srg fun N h17=>sm ?_
    refine s0 (hnl el_25) ?_
    refine s0 hqi ?_
    refine snl h17 ?_
    refine wc (fun hc1=>?_) (fun hc1=>?_)
    ·have hr1:=hc1;(try simp only [hcs,Int.reduceToNat] at hc1)
     refine hw_exit ?_
     refine hq_then_exit<|hq_block_here<|h14 _<|hw_region<|sm ?_
     refine s0 hsi ?_
     refine sa<|hseq_nil ?_
     refine hU11 _ ?_
     refine hr_succ (fun NhU18 hU18=>?_)
     refine hw_seq fun Nh19 h19=>srg fun N h20=>sm ?_
     refine s0 (hop_geq rfl rfl) ?_
     refine snl h20 ?_
     refine wc (fun hc0=>?_) (fun hc0=>?_)
     ·have hr0:=hc0;(try simp only [hcs,Int.reduceToNat] at hc0)
      exfalso;simp at hr0
     have hr0:=hc0;(try simp only [hcs,Int.reduceToNat] at hc0)
     refine hw_exit ?_
     refine hq_then_exit<|hq_then_exit<|hq_block_here<|h2 _<|hw_seq fun Nh21 h21=>srg fun N h22=>sm<|sm ?_
     refine s0 hsi ?_
     refine s0 (hix el_76) ?_
     refine s0 (hop_fa_fp fd_80_0 rfl (nb rfl)) ?_
     refine s0 (HOp.val (v':=intV (kd l q')) (hop_load_fp ty_3 rfl (nb rfl) (fun h=>(by rfl))) (sg_at (by omega) (by omega))) ?_
     refine s0 hqi ?_
     refine snl h22 ?_
     refine wc (fun hc4=>?_) (fun hc4=>?_)
     ·have hr4:=hc4;(try simp only [hcs,Int.reduceToNat] at hc4)
      refine srg fun N h23=>sm<|sm<|sm<|sm ?_
      refine s0 (HOp.val (v':=intV (q':Int)) (hop_subi rfl rfl rfl (by omega) (by omega)) (by rw [show (q:Int) - 1=(q':Int) by omega])) ?_
      refine hf_callR 83 (xs:=[_,_,_,_]) (pre:=[(9003,_)]) (ih _ g out ho) ⟨rfl,⟨rfl,⟨rfl,⟨rfl,trivial⟩⟩⟩⟩ (preC rfl pre0) rfl rfl (fun g3 c1 hx1=>?_)
      (try dsimp only)
      refine sa<|snl h23<|hw_seq fun Nh24 h24=>?_
      have hfl:=T.flat_len out.length t;have hsz:=seg_size hs0;have hol:(out++T.flat out.length t).length=out.length+t.size:=(by rw [List.length_append,hfl])
      refine hd_start ?_
      refine dm 1 ?_
      refine dm 2 ?_
      refine dm 3 ?_
      refine d0 4 hsi ?_
      refine d0 5 (hix el_76) ?_
      refine d0 6 (hop_fa_fp fd_80_2 rfl (nb rfl)) ?_
      refine d0 7 (HOp.val (v':=intV (l.getD q' default).low) (hop_load_fp ty_3 rfl (nb rfl) (fun h=>(by rfl))) (by rw [show ((q:Int) - 1).toNat=q' by omega];rfl)) ?_
      refine dm 8 ?_
      refine dm 9 ?_
      refine d0 10 hsi ?_
      refine d0 11 (hix el_76) ?_
      refine d0 12 (hop_fa_fp fd_80_3 rfl (nb rfl)) ?_
      refine d0 13 (HOp.val (v':=intV (l.getD q' default).high) (hop_load_fp ty_3 rfl (nb rfl) (fun h=>(by rfl))) (by rw [show ((q:Int) - 1).toNat=q' by omega];rfl)) ?_
      refine dm 14 ?_
      refine d0 15 (hop_len_os (T:=22) rfl (elOf_spec el_22).1 rfl) ?_
      refine d0 16 hsi ?_
      refine hd_1 100 (hop_buildSlice (id:=100) (hs:=[_]) ei_25 (nb rfl) rfl (nb rfl) ⟨rfl,rfl,rfl,rfl,trivial⟩) rfl rfl pre0 rfl rfl (k':=17) rfl ?_
      refine d0 18 (hop_build (hs:=[(0,1,_),(1,1,_),(2,1,_),(4,1,_)]) st_27 rfl rfl ⟨rfl,rfl,rfl,rfl,rfl,⟨rfl,rfl,rfl,rfl,rfl,⟨rfl,rfl,rfl,rfl,rfl,⟨rfl,rfl,rfl,rfl,rfl,trivial⟩⟩⟩⟩) ?_
      refine hd_1 102 (hop_buildSlice (id:=102) (hs:=[_]) ei_22 (nb rfl) rfl (nb rfl) ⟨rfl,rfl,rfl,rfl,trivial⟩) rfl rfl pre0 rfl rfl (k':=19) rfl ?_
      refine hd_1 103 (hol_append ei_22 (nb rfl) rfl om (nb rfl) (srl_os0 rfl (nb rfl)) om rfl) rfl rfl (preC rfl (pre1 rfl)) rfl rfl (k':=20) rfl ?_
      refine d0 21 (hop_assign rfl) ?_
      refine hd_nil kr kr (c':=c1+21) rfl ?_
      refine h24 _<|hw_ret<|hq_then_ret ?_
      refine hf_retR1 ok hX RetS.one rfl (rval_tmp rfl) [(100,_)] rfl (preC rfl pre0) (_) (trivial) (by rfl) (by rfl) (kz_os rfl rfl (by first | (simp [T.flat];done) | (simp [T.flat];omega))) ?_
      exact ⟨⟨_,rfl,okz_snoc (o:=out++T.flat out.length t) (x:=⟨4,(l.getD q' default).low,(l.getD q' default).high,[],[((out.length+t.size:Nat):Int) - 1]⟩) rfl (by first | (simp only [T.flat,List.append_assoc];done) | (simp [T.flat];done) | rfl) (fz_pt (.imm _) (.imm _) (.imm _) (.imm _) (fz_row (l:=[((out.length+t.size:Nat):Int) - 1]) (enc:=fun x _=>intV x) (d:=0) (List.mem_cons_self ..) rfl rfl (Nat.le_refl _) (fun i j hi hj=>by obtain rfl:i=0:=(by simpa using hi);exact fz_int (by rw [List.length_append,hfl];rfl))))⟩,trivial⟩
     have hr4:=hc4;(try simp only [hcs,Int.reduceToNat] at hc4)
     exfalso;omega
    have hr1:=hc1;(try simp only [hcs,Int.reduceToNat] at hc1)
    exfalso;simp at hr1
   have hr0:=hc0;(try simp only [hcs,Int.reduceToNat] at hc0)
   exfalso;simp at hr0
  have hr1:=hc1;(try simp only [hcs,Int.reduceToNat] at hc1)
  exfalso;simp at hr1
 have hr0:=hc0;(try simp only [hcs,Int.reduceToNat] at hc0)
 exfalso;simp at hr0
theorem bd_timesN (l:List Sg) (p q:Nat) (hl:l.length≤1000) (q':Nat) (t:T) (h5:kd l q'=5) (hs0:Seg l 0 p q' t) (hpq1:p < q') (hq:q=q'+1) (hql:q≤l.length) (hpq:p≤q) {v:Nat} (hv:v≤1) (hsg:Seg l v p q (.times (l.getD q' default).low (l.getD q' default).high t)) (ih:BdC l p q' t):BdN l p q (.times (l.getD q' default).low (l.getD q' default).high t):=by
 intro c
 obtain ⟨cb,hcb⟩:∃ cb,cb=c+1:=⟨_,rfl⟩
 have ho:([]:List Pt).length≤2 * p:=Nat.zero_le _
 refine hfun_of Tryz.func72 rfl kr _ _ _ _ rfl 126 rfl rfl (fun X ok hX=>?_)
 refine hw_seq (fun Nh1 h1=>?_)
 refine hw_own 0 9003 5 27 (ptsF []) rfl (by decide) rfl (c':=cb) hcb.symm ?_
 refine hw_region<|sa<|snl h1<|hw_seq fun Nh2 h2=>srg fun N h3=>sa<|snl h3<|hw_block ?_
 refine hw_rounds 3 ?_
 refine hr_succ (fun NhU4 hU4=>?_)
 refine hw_seq fun Nh5 h5=>srg fun N h6=>sm ?_
 refine s0 (hop_geq rfl rfl) ?_
 refine snl h6 ?_
 refine wc (fun hc0=>?_) (fun hc0=>?_)
 ·have hr0:=hc0;(try simp only [hcs,Int.reduceToNat] at hc0)
  refine hw_skip<|h5 _<|hw_seq fun Nh7 h7=>hw_block<|srg fun N h8=>sm<|sm<|sm<|sm ?_
  refine s0 (hop_call0 (xs:=[_,_,_,_]) ((show HPure Tryz.prog 95 [sgsV l,intV p,intV q,intV 3] (kidsV [(p:Int),(q:Int)]) from (by rw [←cuts_item hsg hv];exact cuts_h l p q 3 hl hql hpq))) ⟨rfl,⟨rfl,⟨rfl,⟨rfl,trivial⟩⟩⟩⟩ ⟨fe,⟨fe,⟨fe,⟨fe,trivial⟩⟩⟩⟩) ?_
  refine sa<|snl h8<|hw_seq fun Nh9 h9=>srg fun N h10=>sm ?_
  refine s0 (hnl el_25) ?_
  refine s0 hqi ?_
  refine snl h10 ?_
  refine wc (fun hc1=>?_) (fun hc1=>?_)
  ·have hr1:=hc1;(try simp only [hcs,Int.reduceToNat] at hc1)
   refine hw_exit ?_
   refine hq_then_exit<|hq_block_here<|h7 _<|hw_region<|sm ?_
   refine s0 hsi ?_
   refine sa<|hseq_nil ?_
   refine hU4 _ ?_
   refine hr_succ (fun NhU11 hU11=>?_)
   refine hw_seq fun Nh12 h12=>srg fun N h13=>sm ?_
   refine s0 (hop_geq rfl rfl) ?_
   refine snl h13 ?_
   refine wc (fun hc0=>?_) (fun hc0=>?_)
   ·have hr0:=hc0;(try simp only [hcs,Int.reduceToNat] at hc0)
    refine hw_skip<|h12 _<|hw_seq fun Nh14 h14=>hw_block<|srg fun N h15=>sm<|sm<|sm<|sm ?_
    refine s0 (hop_call0 (xs:=[_,_,_,_]) ((show HPure Tryz.prog 95 [sgsV l,intV p,intV q,intV 2] (kidsV [(p:Int),(q:Int)]) from (by rw [←cuts_item hsg hv];exact cuts_h l p q 2 hl hql hpq))) ⟨rfl,⟨rfl,⟨rfl,⟨rfl,trivial⟩⟩⟩⟩ ⟨fe,⟨fe,⟨fe,⟨fe,trivial⟩⟩⟩⟩) ?_
    refine sa<|snl h15<|hw_seq fun Nh16 h16=>srg fun N h17=>sm ?_
    refine s0 (hnl el_25) ?_
    refine s0 hqi ?_
    refine snl h17 ?_
    refine wc (fun hc1=>?_) (fun hc1=>?_)
    ·have hr1:=hc1;(try simp only [hcs,Int.reduceToNat] at hc1)
     refine hw_exit ?_
     refine hq_then_exit<|hq_block_here<|h14 _<|hw_region<|sm ?_
     refine s0 hsi ?_
     refine sa<|hseq_nil ?_
     refine hU11 _ ?_
     refine hr_succ (fun NhU18 hU18=>?_)
     refine hw_seq fun Nh19 h19=>srg fun N h20=>sm ?_
     refine s0 (hop_geq rfl rfl) ?_
     refine snl h20 ?_
     refine wc (fun hc0=>?_) (fun hc0=>?_)
     ·have hr0:=hc0;(try simp only [hcs,Int.reduceToNat] at hc0)
      exfalso;simp at hr0
     have hr0:=hc0;(try simp only [hcs,Int.reduceToNat] at hc0)
     refine hw_exit ?_
     refine hq_then_exit<|hq_then_exit<|hq_block_here<|h2 _<|hw_seq fun Nh21 h21=>srg fun N h22=>sm<|sm ?_
     refine s0 hsi ?_
     refine s0 (hix el_76) ?_
     refine s0 (hop_fa_fp fd_80_0 rfl (nb rfl)) ?_
     refine s0 (HOp.val (v':=intV (kd l q')) (hop_load_fp ty_3 rfl (nb rfl) (fun h=>(by rfl))) (sg_at (by omega) (by omega))) ?_
     refine s0 hqi ?_
     refine snl h22 ?_
     refine wc (fun hc4=>?_) (fun hc4=>?_)
     ·have hr4:=hc4;(try simp only [hcs,Int.reduceToNat] at hc4)
      refine srg fun N h23=>sm<|sm<|sm<|sm ?_
      refine s0 (HOp.val (v':=intV (q':Int)) (hop_subi rfl rfl rfl (by omega) (by omega)) (by rw [show (q:Int) - 1=(q':Int) by omega])) ?_
      refine hf_callR 83 (xs:=[_,_,_,_]) (pre:=[(9003,_)]) (ih _ c ([]:List Pt) ho) ⟨rfl,⟨rfl,⟨rfl,⟨rfl,trivial⟩⟩⟩⟩ (preC rfl pre0) rfl rfl (fun g3 c1 hx1=>?_)
      (try dsimp only)
      refine sa<|snl h23<|hw_seq fun Nh24 h24=>?_
      have hfl:=T.flat_len ([]:List Pt).length t;have hsz:=seg_size hs0;have hol:(([]:List Pt)++T.flat ([]:List Pt).length t).length=([]:List Pt).length+t.size:=(by rw [List.length_append,hfl])
      refine hd_start ?_
      refine dm 1 ?_
      refine dm 2 ?_
      refine dm 3 ?_
      refine d0 4 hsi ?_
      refine d0 5 (hix el_76) ?_
      refine d0 6 (hop_fa_fp fd_80_2 rfl (nb rfl)) ?_
      refine d0 7 (HOp.val (v':=intV (l.getD q' default).low) (hop_load_fp ty_3 rfl (nb rfl) (fun h=>(by rfl))) (by rw [show ((q:Int) - 1).toNat=q' by omega];rfl)) ?_
      refine dm 8 ?_
      refine dm 9 ?_
      refine d0 10 hsi ?_
      refine d0 11 (hix el_76) ?_
      refine d0 12 (hop_fa_fp fd_80_3 rfl (nb rfl)) ?_
      refine d0 13 (HOp.val (v':=intV (l.getD q' default).high) (hop_load_fp ty_3 rfl (nb rfl) (fun h=>(by rfl))) (by rw [show ((q:Int) - 1).toNat=q' by omega];rfl)) ?_
      refine dm 14 ?_
      refine d0 15 (hop_len_os (T:=22) rfl (elOf_spec el_22).1 rfl) ?_
      refine d0 16 hsi ?_
      refine hd_1 100 (hop_buildSlice (id:=100) (hs:=[_]) ei_25 (nb rfl) rfl (nb rfl) ⟨rfl,rfl,rfl,rfl,trivial⟩) rfl rfl pre0 rfl rfl (k':=17) rfl ?_
      refine d0 18 (hop_build (hs:=[(0,1,_),(1,1,_),(2,1,_),(4,1,_)]) st_27 rfl rfl ⟨rfl,rfl,rfl,rfl,rfl,⟨rfl,rfl,rfl,rfl,rfl,⟨rfl,rfl,rfl,rfl,rfl,⟨rfl,rfl,rfl,rfl,rfl,trivial⟩⟩⟩⟩) ?_
      refine hd_1 102 (hop_buildSlice (id:=102) (hs:=[_]) ei_22 (nb rfl) rfl (nb rfl) ⟨rfl,rfl,rfl,rfl,trivial⟩) rfl rfl pre0 rfl rfl (k':=19) rfl ?_
      refine hd_1 103 (hol_append ei_22 (nb rfl) rfl om (nb rfl) (srl_os0 rfl (nb rfl)) om rfl) rfl rfl (preC rfl (pre1 rfl)) rfl rfl (k':=20) rfl ?_
      refine d0 21 (hop_assign rfl) ?_
      refine hd_nil kr kr (c':=c1+21) rfl ?_
      refine h24 _<|hw_ret<|hq_then_ret ?_
      refine hf_retR1 ok hX RetS.one rfl (rval_tmp rfl) [(100,_)] rfl (preC rfl pre0) (_) (trivial) (by rfl) (by rfl) (kz_os rfl rfl (by first | (simp [T.flat];done) | (simp [T.flat];omega))) ?_
      exact ⟨⟨_,rfl,okz_snoc (o:=([]:List Pt)++T.flat ([]:List Pt).length t) (x:=⟨4,(l.getD q' default).low,(l.getD q' default).high,[],[((([]:List Pt).length+t.size:Nat):Int) - 1]⟩) rfl (by first | (simp only [T.flat,List.append_assoc];done) | (simp [T.flat];done) | rfl) (fz_pt (.imm _) (.imm _) (.imm _) (.imm _) (fz_row (l:=[((([]:List Pt).length+t.size:Nat):Int) - 1]) (enc:=fun x _=>intV x) (d:=0) (List.mem_cons_self ..) rfl rfl (Nat.le_refl _) (fun i j hi hj=>by obtain rfl:i=0:=(by simpa using hi);exact fz_int (by rw [List.length_append,hfl];rfl))))⟩,trivial⟩
     have hr4:=hc4;(try simp only [hcs,Int.reduceToNat] at hc4)
     exfalso;omega
    have hr1:=hc1;(try simp only [hcs,Int.reduceToNat] at hc1)
    exfalso;simp at hr1
   have hr0:=hc0;(try simp only [hcs,Int.reduceToNat] at hc0)
   exfalso;simp at hr0
  have hr1:=hc1;(try simp only [hcs,Int.reduceToNat] at hc1)
  exfalso;simp at hr1
 have hr0:=hc0;(try simp only [hcs,Int.reduceToNat] at hc0)
 exfalso;simp at hr0
theorem bd_row (l:List Sg) (p q:Nat) (hl:l.length≤1000) (ts:List T) (B:List Int) (m:Nat) (s e:Nat→Nat) (hC:Cuts l B m p q ts s e) (hql:q≤l.length) (hpq:p≤q) (ih:∀ i,i < ts.length→BdC l (s i) (e i) (ts.getD i default)) (hsg:Seg l 2 p q (.many 2 ts)) (hB:B=cutAt l p q 2 p [(p:Int)]++[(q:Int)]) (hend:∀ i,i < m→B.getD (i+1) 0=(e i:Int)):BdC l p q (.many 2 ts):=by
 intro c g out ho
 obtain ⟨cb,hcb⟩:∃ cb,cb=c:=⟨_,rfl⟩
 subst hcb
 have hCl:=hC.hlen
 have hCm:=hC.hm
 have hC2:=hC.htwo
 have hCb:=hC.hmb
 refine hfun_of Tryz.func72 rfl kr _ _ _ _ rfl 126 rfl rfl (fun X ok hX=>?_)
 refine srg fun N h1=>sa<|snl h1<|hw_seq fun Nh2 h2=>srg fun N h3=>sa<|snl h3<|hw_block ?_
 refine hw_rounds 3 ?_
 refine hr_succ (fun NhU4 hU4=>?_)
 refine hw_seq fun Nh5 h5=>srg fun N h6=>sm ?_
 refine s0 (hop_geq rfl rfl) ?_
 refine snl h6 ?_
 refine wc (fun hc0=>?_) (fun hc0=>?_)
 ·have hr0:=hc0;(try simp only [hcs,Int.reduceToNat] at hc0)
  refine hw_skip<|h5 _<|hw_seq fun Nh7 h7=>hw_block<|srg fun N h8=>sm<|sm<|sm<|sm ?_
  refine s0 (hop_call0 (xs:=[_,_,_,_]) ((show HPure Tryz.prog 95 [sgsV l,intV p,intV q,intV 3] (kidsV [(p:Int),(q:Int)]) from (by rw [←cuts_row3 hsg];exact cuts_h l p q 3 hl hql hpq))) ⟨rfl,⟨rfl,⟨rfl,⟨rfl,trivial⟩⟩⟩⟩ ⟨fe,⟨fe,⟨fe,⟨fe,trivial⟩⟩⟩⟩) ?_
  refine sa<|snl h8<|hw_seq fun Nh9 h9=>srg fun N h10=>sm ?_
  refine s0 (hnl el_25) ?_
  refine s0 hqi ?_
  refine snl h10 ?_
  refine wc (fun hc1=>?_) (fun hc1=>?_)
  ·have hr1:=hc1;(try simp only [hcs,Int.reduceToNat] at hc1)
   refine hw_exit ?_
   refine hq_then_exit<|hq_block_here<|h7 _<|hw_region<|sm ?_
   refine s0 hsi ?_
   refine sa<|hseq_nil ?_
   refine hU4 _ ?_
   refine hr_succ (fun NhU11 hU11=>?_)
   refine hw_seq fun Nh12 h12=>srg fun N h13=>sm ?_
   refine s0 (hop_geq rfl rfl) ?_
   refine snl h13 ?_
   refine wc (fun hc0=>?_) (fun hc0=>?_)
   ·have hr0:=hc0;(try simp only [hcs,Int.reduceToNat] at hc0)
    refine hw_skip<|h12 _<|hw_seq fun Nh14 h14=>hw_block<|srg fun N h15=>sm<|sm<|sm<|sm ?_
    refine s0 (hop_call0 (xs:=[_,_,_,_]) ((show HPure Tryz.prog 95 [sgsV l,intV p,intV q,intV 2] (kidsV B) from (by rw [hB];exact cuts_h l p q 2 hl hql hpq))) ⟨rfl,⟨rfl,⟨rfl,⟨rfl,trivial⟩⟩⟩⟩ ⟨fe,⟨fe,⟨fe,⟨fe,trivial⟩⟩⟩⟩) ?_
    refine sa<|snl h15<|hw_seq fun Nh16 h16=>srg fun N h17=>sm ?_
    refine s0 (hnl el_25) ?_
    refine s0 hqi ?_
    refine snl h17 ?_
    refine wc (fun hc1=>?_) (fun hc1=>?_)
    ·have hr1:=hc1;(try simp only [hcs,Int.reduceToNat] at hc1)
     exfalso;omega
    have hr1:=hc1;(try simp only [hcs,Int.reduceToNat] at hc1)
    refine hw_skip<|h16 _<|srg fun N h18=>sm ?_
    refine s0 (hop_build (hs:=[(0,1,_)]) st_27 rfl rfl ⟨rfl,rfl,rfl,rfl,rfl,trivial⟩) ?_
    refine hm_1 11 (hop_alloc (id:=11) (sz:=5) zc_27 rfl rfl (nb rfl) (nb rfl)) rfl rfl pre0 rfl rfl (c':=cb+1) rfl ?_
    refine sw (cb+2) ty_27 ?_
    refine snl h18<|hw_seq fun Nh19 h19=>srg fun N h20=>sa<|snl h20<|hw_block ?_
    refine (hsub_ownc 11 4 7001 1 3 (kidsF []) (partW 2 (cb+2) 0) rfl rfl (fun j hj=>by match j,hj with | 0,_=>exact .inr rfl | 1,_=>exact .inr rfl | 2,_=>exact .inr rfl | 3,_=>exact .inr rfl | 4,_=>exact .inl ⟨rfl,rfl⟩) (by decide) (by decide) (c':=cb+3) rfl).wp ?_
    refine hw_loopc (α:=Nat×List Pt×List Int×Nat×Nat) (fun x c=>⟨126,[(0,.v (.os 9003 x.2.2.2.1 0 x.2.1.length)),(1,.v (sgsV l)),(2,.v (intV p)),(3,.v (intV q)),(9,.v (intV 2)),(10,.v (kidsV B)),(11,.v (.pt 11 cb 0 0)),(12,.v (intV x.1))],[(9003,pt2O x.2.2.2.1 x.2.1),(11,⟨cb,1,5,27,0,partW 2 x.2.2.2.2 x.2.2.1.length⟩),(7001,⟨x.2.2.2.2,x.2.2.1.length,1,3,0,kidsF x.2.2.1⟩)],c⟩) (fun x=>KidI ts out x.1 x.2.1 x.2.2.1) (fun x=>m - x.1) ((0,out,[],g,cb+2)) (by exact ⟨Nat.zero_le _,by simp [T.flatL],rfl⟩) (hsub_of rfl (Nat.le_refl _) tsa (hsr rfl (HpSub.cons rfl (by exact osub5 (.refl _) (.refl _) (.refl _) (.refl _) (.refl _)) hsa))) (fun x c hx NhL21 hL21=>?_)
    revert hx hL21;obtain ⟨i,o,ks,gg,gk⟩:=x;intro hx hL21;dsimp only at hx hL21 ⊢
    obtain ⟨hI1,hI2,hI3⟩:=hx
    have hI:KidI ts out i o ks:=⟨hI1,hI2,hI3⟩;have hkl:=kid_len hI
    refine hw_seq fun Nh22 h22=>srg fun N h23=>sm ?_
    refine s0 hai ?_
    refine sm ?_
    refine s0 (hnl el_25) ?_
    refine s0 hli ?_
    refine snl h23 ?_
    refine wc (fun hc2=>?_) (fun hc2=>?_)
    ·have hr2:=hc2;(try simp only [hcs,Int.reduceToNat] at hc2)
     have him:i < ts.length:=om;have hin:=hC.hle i om;have hou:=hC.hout i om;have hsz:=hC.hsz i om
     refine hw_skip<|h22 _<|hw_seq fun Nh24 h24=>hw_block<|srg fun N h25=>sm<|sm ?_
     refine s0 hai ?_
     refine s0 (hix el_25) ?_
     refine s0 (HOp.val (v':=intV (e i:Int)) (hop_load_fp ty_3 rfl (nb rfl) (fun h=>(by rfl))) (by exact kids_at (by omega) (hend i (by omega)))) ?_
     refine sa<|snl h25<|hw_seq fun Nh26 h26=>srg fun N h27=>sm ?_
     refine s0 hqi ?_
     refine sm ?_
     refine gm 42 ?_
     refine stg 42 (fun hb=>hop_add rfl rfl) rfl rfl rfl rfl rfl ?_
     refine gm 42 ?_
     refine stg 42 (fun hb=>hop_len_sl (T:=25) rfl (elOf_spec el_25).1 rfl) rfl rfl rfl rfl rfl ?_
     refine stg 42 (fun hb=>hop_lss rfl rfl) rfl rfl rfl rfl rfl ?_
     refine hq_p 48 (hstep_and _ _ rfl rfl rfl) rfl rfl rfl ?_
     refine nu ?_
     refine h27 _ ?_
     refine wc (fun hc3=>?_) (fun hc3=>?_)
     ·have hr3:=hc3;(try simp only [hcs,Int.reduceToNat] at hc3)
      exfalso;simp at hr3
     have hr3:=hc3;(try simp only [hcs,Int.reduceToNat] at hc3)
     refine hw_skip<|h26 _<|srg fun N h28=>sm<|sm<|sm<|sm ?_
     refine s0 (hix el_25) ?_
     refine s0 (HOp.val (v':=intV (s i:Int)) (hop_load_fp ty_3 rfl (nb rfl) (fun h=>(by rfl))) (by exact kids_at (by omega) (hC.hat i (by omega)))) ?_
     refine sm ?_
     refine hf_callR 58 (xs:=[_,_,_,_]) (pre:=[(9003,_)]) (ih i him _ gg o om) ⟨rfl,⟨rfl,⟨rfl,⟨rfl,trivial⟩⟩⟩⟩ (preC rfl pre0) rfl rfl (fun g3 c1 hx1=>?_)
     (try dsimp only)
     refine sa<|snl h28 ?_
     have hol:(o++T.flat o.length (ts.getD i default)).length=o.length+(ts.getD i default).size:=(by rw [List.length_append,T.flat_len])
     refine hw_region ?_
     refine sf fd_27_4 ?_
     refine sl ty_25 ?_
     refine sm ?_
     refine s0 (hop_len_os (T:=22) rfl (elOf_spec el_22).1 rfl) ?_
     refine s0 hsi ?_
     refine hm_1 64 (hop_buildSlice (id:=64) (hs:=[_]) ei_25 (nb rfl) rfl (nb rfl) ⟨rfl,rfl,rfl,rfl,trivial⟩) rfl rfl pre0 rfl rfl (c':=c1+1) rfl ?_
     refine hm_1 65 (hol_append ei_25 (nb rfl) rfl om (nb rfl) (srl_os0 rfl (nb rfl)) om rfl) rfl rfl (preC rfl (pre1 rfl)) rfl rfl (c':=c1+2) rfl ?_
     refine sf fd_27_4 ?_
     refine sx (c1+3) ty_25 ?_
     refine hseq_nil<|hq_block<|h24 _<|hw_region<|sm ?_
     refine s0 hai ?_
     refine sa<|hseq_nil ?_
     exact hL21 ((i+1,o++T.flat o.length (ts.getD i default),ks++[T.root o.length (ts.getD i default)],g3,c1+1)) _ _ (by (try dsimp only);exact kid_next hI him) (by (try dsimp only);omega) (hsub_of rfl (Nat.le_refl _) tsa (hsr rfl (HpSub.cons rfl (by exact osub5 (.refl _) (.refl _) (.refl _) (.refl _) (sb_os (by simp))) (HpSub.cons rfl (osub_snoc (enc:=fun x _=>intV x) (d:=0) rfl (fun i j _ _=>.refl _) (fun j hj=>by exact sb_int (by rw [List.length_append,T.flat_len];rfl))) HpSub.nil))))
    have hr2:=hc2;(try simp only [hcs,Int.reduceToNat] at hc2)
    have hit:i=ts.length:=om;have hal:=hC.hall;have hol2:o.length=out.length+T.sizeL ts:=(by rw [hkl.1,hit,List.take_length])
    refine hw_exit ?_
    refine hq_then_exit<|hq_then_exit<|hq_block_here<|h19 _<|srg fun N h29=>sm ?_
    refine sl ty_27 ?_
    refine (hsub_shr 68 [(7001,_)] rfl (preC rfl pre0) rfl ((show Fz [(7001,⟨gk,ks.length,1,3,0,kidsF ks⟩)] (.agg 5 (partW 2 gk ks.length 0)) (ptH ⟨2,0,0,[],ks⟩) from fz_agg5 (.imm _) (.imm _) (.imm _) (.imm _) (fz_kids rfl)))).seq ?_
    refine hm_1 69 (hop_buildSlice (id:=69) (hs:=[_]) ei_22 (nb rfl) rfl (nb rfl) ⟨rfl,rfl,rfl,rfl,trivial⟩) rfl rfl pre0 rfl rfl (c':=c+1) rfl ?_
    refine hm_1 70 (hol_append ei_22 (nb rfl) rfl om (nb rfl) (srl_os0 rfl (nb rfl)) om rfl) rfl rfl (preC rfl (pre1 rfl)) rfl rfl (c':=c+2) rfl ?_
    refine sa<|snl h29<|hw_ret<|hq_block_ret<|hq_then_ret<|hq_then_ret<|hq_block_ret<|hq_then_ret ?_
    refine hf_retR1 ok hX RetS.one rfl (rval_tmp rfl) [] rfl pre0 (_) (trivial) (by rfl) (by rfl) (kz_os rfl rfl (by have e:=congrArg List.length (kid_done (k:=2) hI hit);rw [List.length_append] at e;exact e)) ?_
    exact ⟨⟨_,rfl,okz_snoc (o:=o) (x:=⟨2,0,0,[],ks⟩) rfl (kid_done hI hit) (fz_pt (.imm _) (.imm _) (.imm _) (.imm _) (.sl _ _ _ _ fun i j _ _=>.imm _))⟩,trivial⟩
   have hr0:=hc0;(try simp only [hcs,Int.reduceToNat] at hc0)
   exfalso;simp at hr0
  have hr1:=hc1;(try simp only [hcs,Int.reduceToNat] at hc1)
  exfalso;simp at hr1
 have hr0:=hc0;(try simp only [hcs,Int.reduceToNat] at hc0)
 exfalso;simp at hr0
theorem bd_rowN (l:List Sg) (p q:Nat) (hl:l.length≤1000) (ts:List T) (B:List Int) (m:Nat) (s e:Nat→Nat) (hC:Cuts l B m p q ts s e) (hql:q≤l.length) (hpq:p≤q) (ih:∀ i,i < ts.length→BdC l (s i) (e i) (ts.getD i default)) (hsg:Seg l 2 p q (.many 2 ts)) (hB:B=cutAt l p q 2 p [(p:Int)]++[(q:Int)]) (hend:∀ i,i < m→B.getD (i+1) 0=(e i:Int)):BdN l p q (.many 2 ts):=by
 intro c
 obtain ⟨cb,hcb⟩:∃ cb,cb=c+1:=⟨_,rfl⟩
 have ho:([]:List Pt).length≤2 * p:=Nat.zero_le _
 have hCl:=hC.hlen
 have hCm:=hC.hm
 have hC2:=hC.htwo
 have hCb:=hC.hmb
 refine hfun_of Tryz.func72 rfl kr _ _ _ _ rfl 126 rfl rfl (fun X ok hX=>?_)
 refine hw_seq (fun Nh1 h1=>?_)
 refine hw_own 0 9003 5 27 (ptsF []) rfl (by decide) rfl (c':=cb) hcb.symm ?_
 refine hw_region<|sa<|snl h1<|hw_seq fun Nh2 h2=>srg fun N h3=>sa<|snl h3<|hw_block ?_
 refine hw_rounds 3 ?_
 refine hr_succ (fun NhU4 hU4=>?_)
 refine hw_seq fun Nh5 h5=>srg fun N h6=>sm ?_
 refine s0 (hop_geq rfl rfl) ?_
 refine snl h6 ?_
 refine wc (fun hc0=>?_) (fun hc0=>?_)
 ·have hr0:=hc0;(try simp only [hcs,Int.reduceToNat] at hc0)
  refine hw_skip<|h5 _<|hw_seq fun Nh7 h7=>hw_block<|srg fun N h8=>sm<|sm<|sm<|sm ?_
  refine s0 (hop_call0 (xs:=[_,_,_,_]) ((show HPure Tryz.prog 95 [sgsV l,intV p,intV q,intV 3] (kidsV [(p:Int),(q:Int)]) from (by rw [←cuts_row3 hsg];exact cuts_h l p q 3 hl hql hpq))) ⟨rfl,⟨rfl,⟨rfl,⟨rfl,trivial⟩⟩⟩⟩ ⟨fe,⟨fe,⟨fe,⟨fe,trivial⟩⟩⟩⟩) ?_
  refine sa<|snl h8<|hw_seq fun Nh9 h9=>srg fun N h10=>sm ?_
  refine s0 (hnl el_25) ?_
  refine s0 hqi ?_
  refine snl h10 ?_
  refine wc (fun hc1=>?_) (fun hc1=>?_)
  ·have hr1:=hc1;(try simp only [hcs,Int.reduceToNat] at hc1)
   refine hw_exit ?_
   refine hq_then_exit<|hq_block_here<|h7 _<|hw_region<|sm ?_
   refine s0 hsi ?_
   refine sa<|hseq_nil ?_
   refine hU4 _ ?_
   refine hr_succ (fun NhU11 hU11=>?_)
   refine hw_seq fun Nh12 h12=>srg fun N h13=>sm ?_
   refine s0 (hop_geq rfl rfl) ?_
   refine snl h13 ?_
   refine wc (fun hc0=>?_) (fun hc0=>?_)
   ·have hr0:=hc0;(try simp only [hcs,Int.reduceToNat] at hc0)
    refine hw_skip<|h12 _<|hw_seq fun Nh14 h14=>hw_block<|srg fun N h15=>sm<|sm<|sm<|sm ?_
    refine s0 (hop_call0 (xs:=[_,_,_,_]) ((show HPure Tryz.prog 95 [sgsV l,intV p,intV q,intV 2] (kidsV B) from (by rw [hB];exact cuts_h l p q 2 hl hql hpq))) ⟨rfl,⟨rfl,⟨rfl,⟨rfl,trivial⟩⟩⟩⟩ ⟨fe,⟨fe,⟨fe,⟨fe,trivial⟩⟩⟩⟩) ?_
    refine sa<|snl h15<|hw_seq fun Nh16 h16=>srg fun N h17=>sm ?_
    refine s0 (hnl el_25) ?_
    refine s0 hqi ?_
    refine snl h17 ?_
    refine wc (fun hc1=>?_) (fun hc1=>?_)
    ·have hr1:=hc1;(try simp only [hcs,Int.reduceToNat] at hc1)
     exfalso;omega
    have hr1:=hc1;(try simp only [hcs,Int.reduceToNat] at hc1)
    refine hw_skip<|h16 _<|srg fun N h18=>sm ?_
    refine s0 (hop_build (hs:=[(0,1,_)]) st_27 rfl rfl ⟨rfl,rfl,rfl,rfl,rfl,trivial⟩) ?_
    refine hm_1 11 (hop_alloc (id:=11) (sz:=5) zc_27 rfl rfl (nb rfl) (nb rfl)) rfl rfl pre0 rfl rfl (c':=cb+1) rfl ?_
    refine sw (cb+2) ty_27 ?_
    refine snl h18<|hw_seq fun Nh19 h19=>srg fun N h20=>sa<|snl h20<|hw_block ?_
    refine (hsub_ownc 11 4 7001 1 3 (kidsF []) (partW 2 (cb+2) 0) rfl rfl (fun j hj=>by match j,hj with | 0,_=>exact .inr rfl | 1,_=>exact .inr rfl | 2,_=>exact .inr rfl | 3,_=>exact .inr rfl | 4,_=>exact .inl ⟨rfl,rfl⟩) (by decide) (by decide) (c':=cb+3) rfl).wp ?_
    refine hw_loopc (α:=Nat×List Pt×List Int×Nat×Nat) (fun x c=>⟨126,[(0,.v (.os 9003 x.2.2.2.1 0 x.2.1.length)),(1,.v (sgsV l)),(2,.v (intV p)),(3,.v (intV q)),(9,.v (intV 2)),(10,.v (kidsV B)),(11,.v (.pt 11 cb 0 0)),(12,.v (intV x.1))],[(9003,pt2O x.2.2.2.1 x.2.1),(11,⟨cb,1,5,27,0,partW 2 x.2.2.2.2 x.2.2.1.length⟩),(7001,⟨x.2.2.2.2,x.2.2.1.length,1,3,0,kidsF x.2.2.1⟩)],c⟩) (fun x=>KidI ts ([]:List Pt) x.1 x.2.1 x.2.2.1) (fun x=>m - x.1) ((0,([]:List Pt),[],c,cb+2)) (by exact ⟨Nat.zero_le _,by simp [T.flatL],rfl⟩) (hsub_of rfl (Nat.le_refl _) tsa (hsr rfl (HpSub.cons rfl (by exact osub5 (.refl _) (.refl _) (.refl _) (.refl _) (.refl _)) hsa))) (fun x c hx NhL21 hL21=>?_)
    revert hx hL21;obtain ⟨i,o,ks,gg,gk⟩:=x;intro hx hL21;dsimp only at hx hL21 ⊢
    obtain ⟨hI1,hI2,hI3⟩:=hx
    have hI:KidI ts ([]:List Pt) i o ks:=⟨hI1,hI2,hI3⟩;have hkl:=kid_len hI
    refine hw_seq fun Nh22 h22=>srg fun N h23=>sm ?_
    refine s0 hai ?_
    refine sm ?_
    refine s0 (hnl el_25) ?_
    refine s0 hli ?_
    refine snl h23 ?_
    refine wc (fun hc2=>?_) (fun hc2=>?_)
    ·have hr2:=hc2;(try simp only [hcs,Int.reduceToNat] at hc2)
     have him:i < ts.length:=om;have hin:=hC.hle i om;have hou:=hC.hout i om;have hsz:=hC.hsz i om
     refine hw_skip<|h22 _<|hw_seq fun Nh24 h24=>hw_block<|srg fun N h25=>sm<|sm ?_
     refine s0 hai ?_
     refine s0 (hix el_25) ?_
     refine s0 (HOp.val (v':=intV (e i:Int)) (hop_load_fp ty_3 rfl (nb rfl) (fun h=>(by rfl))) (by exact kids_at (by omega) (hend i (by omega)))) ?_
     refine sa<|snl h25<|hw_seq fun Nh26 h26=>srg fun N h27=>sm ?_
     refine s0 hqi ?_
     refine sm ?_
     refine gm 42 ?_
     refine stg 42 (fun hb=>hop_add rfl rfl) rfl rfl rfl rfl rfl ?_
     refine gm 42 ?_
     refine stg 42 (fun hb=>hop_len_sl (T:=25) rfl (elOf_spec el_25).1 rfl) rfl rfl rfl rfl rfl ?_
     refine stg 42 (fun hb=>hop_lss rfl rfl) rfl rfl rfl rfl rfl ?_
     refine hq_p 48 (hstep_and _ _ rfl rfl rfl) rfl rfl rfl ?_
     refine nu ?_
     refine h27 _ ?_
     refine wc (fun hc3=>?_) (fun hc3=>?_)
     ·have hr3:=hc3;(try simp only [hcs,Int.reduceToNat] at hc3)
      exfalso;simp at hr3
     have hr3:=hc3;(try simp only [hcs,Int.reduceToNat] at hc3)
     refine hw_skip<|h26 _<|srg fun N h28=>sm<|sm<|sm<|sm ?_
     refine s0 (hix el_25) ?_
     refine s0 (HOp.val (v':=intV (s i:Int)) (hop_load_fp ty_3 rfl (nb rfl) (fun h=>(by rfl))) (by exact kids_at (by omega) (hC.hat i (by omega)))) ?_
     refine sm ?_
     refine hf_callR 58 (xs:=[_,_,_,_]) (pre:=[(9003,_)]) (ih i him _ gg o om) ⟨rfl,⟨rfl,⟨rfl,⟨rfl,trivial⟩⟩⟩⟩ (preC rfl pre0) rfl rfl (fun g3 c1 hx1=>?_)
     (try dsimp only)
     refine sa<|snl h28 ?_
     have hol:(o++T.flat o.length (ts.getD i default)).length=o.length+(ts.getD i default).size:=(by rw [List.length_append,T.flat_len])
     refine hw_region ?_
     refine sf fd_27_4 ?_
     refine sl ty_25 ?_
     refine sm ?_
     refine s0 (hop_len_os (T:=22) rfl (elOf_spec el_22).1 rfl) ?_
     refine s0 hsi ?_
     refine hm_1 64 (hop_buildSlice (id:=64) (hs:=[_]) ei_25 (nb rfl) rfl (nb rfl) ⟨rfl,rfl,rfl,rfl,trivial⟩) rfl rfl pre0 rfl rfl (c':=c1+1) rfl ?_
     refine hm_1 65 (hol_append ei_25 (nb rfl) rfl om (nb rfl) (srl_os0 rfl (nb rfl)) om rfl) rfl rfl (preC rfl (pre1 rfl)) rfl rfl (c':=c1+2) rfl ?_
     refine sf fd_27_4 ?_
     refine sx (c1+3) ty_25 ?_
     refine hseq_nil<|hq_block<|h24 _<|hw_region<|sm ?_
     refine s0 hai ?_
     refine sa<|hseq_nil ?_
     exact hL21 ((i+1,o++T.flat o.length (ts.getD i default),ks++[T.root o.length (ts.getD i default)],g3,c1+1)) _ _ (by (try dsimp only);exact kid_next hI him) (by (try dsimp only);omega) (hsub_of rfl (Nat.le_refl _) tsa (hsr rfl (HpSub.cons rfl (by exact osub5 (.refl _) (.refl _) (.refl _) (.refl _) (sb_os (by simp))) (HpSub.cons rfl (osub_snoc (enc:=fun x _=>intV x) (d:=0) rfl (fun i j _ _=>.refl _) (fun j hj=>by exact sb_int (by rw [List.length_append,T.flat_len];rfl))) HpSub.nil))))
    have hr2:=hc2;(try simp only [hcs,Int.reduceToNat] at hc2)
    have hit:i=ts.length:=om;have hal:=hC.hall;have hol2:o.length=([]:List Pt).length+T.sizeL ts:=(by rw [hkl.1,hit,List.take_length])
    refine hw_exit ?_
    refine hq_then_exit<|hq_then_exit<|hq_block_here<|h19 _<|srg fun N h29=>sm ?_
    refine sl ty_27 ?_
    refine (hsub_shr 68 [(7001,_)] rfl (preC rfl pre0) rfl ((show Fz [(7001,⟨gk,ks.length,1,3,0,kidsF ks⟩)] (.agg 5 (partW 2 gk ks.length 0)) (ptH ⟨2,0,0,[],ks⟩) from fz_agg5 (.imm _) (.imm _) (.imm _) (.imm _) (fz_kids rfl)))).seq ?_
    refine hm_1 69 (hop_buildSlice (id:=69) (hs:=[_]) ei_22 (nb rfl) rfl (nb rfl) ⟨rfl,rfl,rfl,rfl,trivial⟩) rfl rfl pre0 rfl rfl (c':=c+1) rfl ?_
    refine hm_1 70 (hol_append ei_22 (nb rfl) rfl om (nb rfl) (srl_os0 rfl (nb rfl)) om rfl) rfl rfl (preC rfl (pre1 rfl)) rfl rfl (c':=c+2) rfl ?_
    refine sa<|snl h29<|hw_ret<|hq_block_ret<|hq_then_ret<|hq_then_ret<|hq_block_ret<|hq_then_ret ?_
    refine hf_retR1 ok hX RetS.one rfl (rval_tmp rfl) [] rfl pre0 (_) (trivial) (by rfl) (by rfl) (kz_os rfl rfl (by have e:=congrArg List.length (kid_done (k:=2) hI hit);rw [List.length_append] at e;exact e)) ?_
    exact ⟨⟨_,rfl,okz_snoc (o:=o) (x:=⟨2,0,0,[],ks⟩) rfl (kid_done hI hit) (fz_pt (.imm _) (.imm _) (.imm _) (.imm _) (.sl _ _ _ _ fun i j _ _=>.imm _))⟩,trivial⟩
   have hr0:=hc0;(try simp only [hcs,Int.reduceToNat] at hc0)
   exfalso;simp at hr0
  have hr1:=hc1;(try simp only [hcs,Int.reduceToNat] at hc1)
  exfalso;simp at hr1
 have hr0:=hc0;(try simp only [hcs,Int.reduceToNat] at hc0)
 exfalso;simp at hr0
theorem bd_choice (l:List Sg) (p q:Nat) (hl:l.length≤1000) (ts:List T) (B:List Int) (m:Nat) (s e:Nat→Nat) (hC:Cuts l B m p q ts s e) (hql:q≤l.length) (hpq:p≤q) (ih:∀ i,i < ts.length→BdC l (s i) (e i) (ts.getD i default)) (hB:B=cutAt l p q 3 p [(p:Int)]++[(q:Int)]) (hend:∀ i,i+1 < m→B.getD (i+1) 0=(e i:Int)+1) (hlast:∀ i,i+1=m→B.getD (i+1) 0=(e i:Int)):BdC l p q (.many 3 ts):=by
 intro c g out ho
 obtain ⟨cb,hcb⟩:∃ cb,cb=c:=⟨_,rfl⟩
 subst hcb
 have hCl:=hC.hlen
 have hCm:=hC.hm
 have hC2:=hC.htwo
 have hCb:=hC.hmb
 refine hfun_of Tryz.func72 rfl kr _ _ _ _ rfl 126 rfl rfl (fun X ok hX=>?_)
 refine srg fun N h1=>sa<|snl h1<|hw_seq fun Nh2 h2=>srg fun N h3=>sa<|snl h3<|hw_block ?_
 refine hw_rounds 3 ?_
 refine hr_succ (fun NhU4 hU4=>?_)
 refine hw_seq fun Nh5 h5=>srg fun N h6=>sm ?_
 refine s0 (hop_geq rfl rfl) ?_
 refine snl h6 ?_
 refine wc (fun hc0=>?_) (fun hc0=>?_)
 ·have hr0:=hc0;(try simp only [hcs,Int.reduceToNat] at hc0)
  refine hw_skip<|h5 _<|hw_seq fun Nh7 h7=>hw_block<|srg fun N h8=>sm<|sm<|sm<|sm ?_
  refine s0 (hop_call0 (xs:=[_,_,_,_]) ((show HPure Tryz.prog 95 [sgsV l,intV p,intV q,intV 3] (kidsV B) from (by rw [hB];exact cuts_h l p q 3 hl hql hpq))) ⟨rfl,⟨rfl,⟨rfl,⟨rfl,trivial⟩⟩⟩⟩ ⟨fe,⟨fe,⟨fe,⟨fe,trivial⟩⟩⟩⟩) ?_
  refine sa<|snl h8<|hw_seq fun Nh9 h9=>srg fun N h10=>sm ?_
  refine s0 (hnl el_25) ?_
  refine s0 hqi ?_
  refine snl h10 ?_
  refine wc (fun hc1=>?_) (fun hc1=>?_)
  ·have hr1:=hc1;(try simp only [hcs,Int.reduceToNat] at hc1)
   exfalso;omega
  have hr1:=hc1;(try simp only [hcs,Int.reduceToNat] at hc1)
  refine hw_skip<|h9 _<|srg fun N h11=>sm ?_
  refine s0 (hop_build (hs:=[(0,1,_)]) st_27 rfl rfl ⟨rfl,rfl,rfl,rfl,rfl,trivial⟩) ?_
  refine hm_1 11 (hop_alloc (id:=11) (sz:=5) zc_27 rfl rfl (nb rfl) (nb rfl)) rfl rfl pre0 rfl rfl (c':=cb+1) rfl ?_
  refine sw (cb+2) ty_27 ?_
  refine snl h11<|hw_seq fun Nh12 h12=>srg fun N h13=>sa<|snl h13<|hw_block ?_
  refine (hsub_ownc 11 4 7001 1 3 (kidsF []) (partW 3 (cb+2) 0) rfl rfl (fun j hj=>by match j,hj with | 0,_=>exact .inr rfl | 1,_=>exact .inr rfl | 2,_=>exact .inr rfl | 3,_=>exact .inr rfl | 4,_=>exact .inl ⟨rfl,rfl⟩) (by decide) (by decide) (c':=cb+3) rfl).wp ?_
  refine hw_loopc (α:=Nat×List Pt×List Int×Nat×Nat) (fun x c=>⟨126,[(0,.v (.os 9003 x.2.2.2.1 0 x.2.1.length)),(1,.v (sgsV l)),(2,.v (intV p)),(3,.v (intV q)),(9,.v (intV 3)),(10,.v (kidsV B)),(11,.v (.pt 11 cb 0 0)),(12,.v (intV x.1))],[(9003,pt2O x.2.2.2.1 x.2.1),(11,⟨cb,1,5,27,0,partW 3 x.2.2.2.2 x.2.2.1.length⟩),(7001,⟨x.2.2.2.2,x.2.2.1.length,1,3,0,kidsF x.2.2.1⟩)],c⟩) (fun x=>KidI ts out x.1 x.2.1 x.2.2.1) (fun x=>m - x.1) ((0,out,[],g,cb+2)) (by exact ⟨Nat.zero_le _,by simp [T.flatL],rfl⟩) (hsub_of rfl (Nat.le_refl _) tsa (hsr rfl (HpSub.cons rfl (by exact osub5 (.refl _) (.refl _) (.refl _) (.refl _) (.refl _)) hsa))) (fun x c hx NhL14 hL14=>?_)
  revert hx hL14;obtain ⟨i,o,ks,gg,gk⟩:=x;intro hx hL14;dsimp only at hx hL14 ⊢
  obtain ⟨hI1,hI2,hI3⟩:=hx
  have hI:KidI ts out i o ks:=⟨hI1,hI2,hI3⟩;have hkl:=kid_len hI
  refine hw_seq fun Nh15 h15=>srg fun N h16=>sm ?_
  refine s0 hai ?_
  refine sm ?_
  refine s0 (hnl el_25) ?_
  refine s0 hli ?_
  refine snl h16 ?_
  refine wc (fun hc2=>?_) (fun hc2=>?_)
  ·have hr2:=hc2;(try simp only [hcs,Int.reduceToNat] at hc2)
   have him:i < ts.length:=om;have hin:=hC.hle i om;have hou:=hC.hout i om;have hsz:=hC.hsz i om
   refine hw_skip<|h15 _<|hw_seq fun Nh17 h17=>hw_block<|srg fun N h18=>sm<|sm ?_
   refine s0 hai ?_
   refine s0 (hix el_25) ?_
   refine s0 (HOp.val (v':=intV (B.getD (i+1) 0)) (hop_load_fp ty_3 rfl (nb rfl) (fun h=>(by rfl))) (by exact kids_at (by omega) rfl)) ?_
   refine sa<|snl h18<|hw_seq fun Nh19 h19=>srg fun N h20=>sm ?_
   refine s0 hqi ?_
   refine sm ?_
   refine gm 42 ?_
   refine stg 42 (fun hb=>hop_addi rfl rfl rfl (by simp at hb;exact omx) (by simp at hb;exact omx)) rfl rfl rfl rfl rfl ?_
   refine gm 42 ?_
   refine stg 42 (fun hb=>hop_len_sl (T:=25) rfl (elOf_spec el_25).1 rfl) rfl rfl rfl rfl rfl ?_
   refine stg 42 (fun hb=>hop_lss rfl rfl) rfl rfl rfl rfl rfl ?_
   refine hq_p 48 (hstep_and _ _ rfl rfl rfl) rfl rfl rfl ?_
   refine nu ?_
   refine h20 _ ?_
   refine wc (fun hc3=>?_) (fun hc3=>?_)
   ·have hr3:=hc3;(try simp only [hcs,Int.reduceToNat] at hc3)
    have hi2:i+1 < m:=(by have h:=hr3;simp at h;omega);have hbe:=hend i hi2
    refine hw_region<|sm ?_
    refine s0 (HOp.val (v':=intV (e i:Int)) (hop_subi rfl rfl rfl (by omega) (by omega)) (congrArg intV (show B.getD (i+1) 0 - 1=(e i:Int) by omega))) ?_
    refine sa<|snl h19<|srg fun N h21=>sm<|sm<|sm<|sm ?_
    refine s0 (hix el_25) ?_
    refine s0 (HOp.val (v':=intV (s i:Int)) (hop_load_fp ty_3 rfl (nb rfl) (fun h=>(by rfl))) (by exact kids_at (by omega) (hC.hat i (by omega)))) ?_
    refine sm ?_
    refine hf_callR 58 (xs:=[_,_,_,_]) (pre:=[(9003,_)]) (ih i him _ gg o om) ⟨rfl,⟨rfl,⟨rfl,⟨rfl,trivial⟩⟩⟩⟩ (preC rfl pre0) rfl rfl (fun g3 c1 hx1=>?_)
    (try dsimp only)
    refine sa<|snl h21 ?_
    have hol:(o++T.flat o.length (ts.getD i default)).length=o.length+(ts.getD i default).size:=(by rw [List.length_append,T.flat_len])
    refine hw_region ?_
    refine sf fd_27_4 ?_
    refine sl ty_25 ?_
    refine sm ?_
    refine s0 (hop_len_os (T:=22) rfl (elOf_spec el_22).1 rfl) ?_
    refine s0 hsi ?_
    refine hm_1 64 (hop_buildSlice (id:=64) (hs:=[_]) ei_25 (nb rfl) rfl (nb rfl) ⟨rfl,rfl,rfl,rfl,trivial⟩) rfl rfl pre0 rfl rfl (c':=c1+1) rfl ?_
    refine hm_1 65 (hol_append ei_25 (nb rfl) rfl om (nb rfl) (srl_os0 rfl (nb rfl)) om rfl) rfl rfl (preC rfl (pre1 rfl)) rfl rfl (c':=c1+2) rfl ?_
    refine sf fd_27_4 ?_
    refine sx (c1+3) ty_25 ?_
    refine hseq_nil<|hq_block<|h17 _<|hw_region<|sm ?_
    refine s0 hai ?_
    refine sa<|hseq_nil ?_
    exact hL14 ((i+1,o++T.flat o.length (ts.getD i default),ks++[T.root o.length (ts.getD i default)],g3,c1+1)) _ _ (by (try dsimp only);exact kid_next hI him) (by (try dsimp only);omega) (hsub_of rfl (Nat.le_refl _) tsa (hsr rfl (HpSub.cons rfl (by exact osub5 (.refl _) (.refl _) (.refl _) (.refl _) (sb_os (by simp))) (HpSub.cons rfl (osub_snoc (enc:=fun x _=>intV x) (d:=0) rfl (fun i j _ _=>.refl _) (fun j hj=>by exact sb_int (by rw [List.length_append,T.flat_len];rfl))) HpSub.nil))))
   have hr3:=hc3;(try simp only [hcs,Int.reduceToNat] at hc3)
   have hi2:i+1=m:=(by have h:=hr3;simp at h;omega)
   refine hw_skip<|h19 _<|srg fun N h22=>sm<|sm<|sm<|sm ?_
   refine s0 (hix el_25) ?_
   refine s0 (HOp.val (v':=intV (s i:Int)) (hop_load_fp ty_3 rfl (nb rfl) (fun h=>(by rfl))) (by exact kids_at (by omega) (hC.hat i (by omega)))) ?_
   refine s0 (HOp.val (v':=intV (e i:Int)) (hop_move rfl) (congrArg intV (hlast i hi2))) ?_
   refine hf_callR 58 (xs:=[_,_,_,_]) (pre:=[(9003,_)]) (ih i him _ gg o om) ⟨rfl,⟨rfl,⟨rfl,⟨rfl,trivial⟩⟩⟩⟩ (preC rfl pre0) rfl rfl (fun g3 c2 hx2=>?_)
   (try dsimp only)
   refine sa<|snl h22 ?_
   have hol:(o++T.flat o.length (ts.getD i default)).length=o.length+(ts.getD i default).size:=(by rw [List.length_append,T.flat_len])
   refine hw_region ?_
   refine sf fd_27_4 ?_
   refine sl ty_25 ?_
   refine sm ?_
   refine s0 (hop_len_os (T:=22) rfl (elOf_spec el_22).1 rfl) ?_
   refine s0 hsi ?_
   refine hm_1 64 (hop_buildSlice (id:=64) (hs:=[_]) ei_25 (nb rfl) rfl (nb rfl) ⟨rfl,rfl,rfl,rfl,trivial⟩) rfl rfl pre0 rfl rfl (c':=c2+1) rfl ?_
   refine hm_1 65 (hol_append ei_25 (nb rfl) rfl om (nb rfl) (srl_os0 rfl (nb rfl)) om rfl) rfl rfl (preC rfl (pre1 rfl)) rfl rfl (c':=c2+2) rfl ?_
   refine sf fd_27_4 ?_
   refine sx (c2+3) ty_25 ?_
   refine hseq_nil<|hq_block<|h17 _<|hw_region<|sm ?_
   refine s0 hai ?_
   refine sa<|hseq_nil ?_
   exact hL14 ((i+1,o++T.flat o.length (ts.getD i default),ks++[T.root o.length (ts.getD i default)],g3,c2+1)) _ _ (by (try dsimp only);exact kid_next hI him) (by (try dsimp only);omega) (hsub_of rfl (Nat.le_refl _) tsa (hsr rfl (HpSub.cons rfl (by exact osub5 (.refl _) (.refl _) (.refl _) (.refl _) (sb_os (by simp))) (HpSub.cons rfl (osub_snoc (enc:=fun x _=>intV x) (d:=0) rfl (fun i j _ _=>.refl _) (fun j hj=>by exact sb_int (by rw [List.length_append,T.flat_len];rfl))) HpSub.nil))))
  have hr2:=hc2;(try simp only [hcs,Int.reduceToNat] at hc2)
  have hit:i=ts.length:=om;have hal:=hC.hall;have hol2:o.length=out.length+T.sizeL ts:=(by rw [hkl.1,hit,List.take_length])
  refine hw_exit ?_
  refine hq_then_exit<|hq_then_exit<|hq_block_here<|h12 _<|srg fun N h23=>sm ?_
  refine sl ty_27 ?_
  refine (hsub_shr 68 [(7001,_)] rfl (preC rfl pre0) rfl ((show Fz [(7001,⟨gk,ks.length,1,3,0,kidsF ks⟩)] (.agg 5 (partW 3 gk ks.length 0)) (ptH ⟨3,0,0,[],ks⟩) from fz_agg5 (.imm _) (.imm _) (.imm _) (.imm _) (fz_kids rfl)))).seq ?_
  refine hm_1 69 (hop_buildSlice (id:=69) (hs:=[_]) ei_22 (nb rfl) rfl (nb rfl) ⟨rfl,rfl,rfl,rfl,trivial⟩) rfl rfl pre0 rfl rfl (c':=c+1) rfl ?_
  refine hm_1 70 (hol_append ei_22 (nb rfl) rfl om (nb rfl) (srl_os0 rfl (nb rfl)) om rfl) rfl rfl (preC rfl (pre1 rfl)) rfl rfl (c':=c+2) rfl ?_
  refine sa<|snl h23<|hw_ret<|hq_block_ret<|hq_then_ret<|hq_then_ret<|hq_block_ret<|hq_then_ret ?_
  refine hf_retR1 ok hX RetS.one rfl (rval_tmp rfl) [] rfl pre0 (_) (trivial) (by rfl) (by rfl) (kz_os rfl rfl (by have e:=congrArg List.length (kid_done (k:=3) hI hit);rw [List.length_append] at e;exact e)) ?_
  exact ⟨⟨_,rfl,okz_snoc (o:=o) (x:=⟨3,0,0,[],ks⟩) rfl (kid_done hI hit) (fz_pt (.imm _) (.imm _) (.imm _) (.imm _) (.sl _ _ _ _ fun i j _ _=>.imm _))⟩,trivial⟩
 have hr0:=hc0;(try simp only [hcs,Int.reduceToNat] at hc0)
 exfalso;simp at hr0
theorem bd_choiceN (l:List Sg) (p q:Nat) (hl:l.length≤1000) (ts:List T) (B:List Int) (m:Nat) (s e:Nat→Nat) (hC:Cuts l B m p q ts s e) (hql:q≤l.length) (hpq:p≤q) (ih:∀ i,i < ts.length→BdC l (s i) (e i) (ts.getD i default)) (hB:B=cutAt l p q 3 p [(p:Int)]++[(q:Int)]) (hend:∀ i,i+1 < m→B.getD (i+1) 0=(e i:Int)+1) (hlast:∀ i,i+1=m→B.getD (i+1) 0=(e i:Int)):BdN l p q (.many 3 ts):=by
 intro c
 obtain ⟨cb,hcb⟩:∃ cb,cb=c+1:=⟨_,rfl⟩
 have ho:([]:List Pt).length≤2 * p:=Nat.zero_le _
 have hCl:=hC.hlen
 have hCm:=hC.hm
 have hC2:=hC.htwo
 have hCb:=hC.hmb
 refine hfun_of Tryz.func72 rfl kr _ _ _ _ rfl 126 rfl rfl (fun X ok hX=>?_)
 refine hw_seq (fun Nh1 h1=>?_)
 refine hw_own 0 9003 5 27 (ptsF []) rfl (by decide) rfl (c':=cb) hcb.symm ?_
 refine hw_region<|sa<|snl h1<|hw_seq fun Nh2 h2=>srg fun N h3=>sa<|snl h3<|hw_block ?_
 refine hw_rounds 3 ?_
 refine hr_succ (fun NhU4 hU4=>?_)
 refine hw_seq fun Nh5 h5=>srg fun N h6=>sm ?_
 refine s0 (hop_geq rfl rfl) ?_
 refine snl h6 ?_
 refine wc (fun hc0=>?_) (fun hc0=>?_)
 ·have hr0:=hc0;(try simp only [hcs,Int.reduceToNat] at hc0)
  refine hw_skip<|h5 _<|hw_seq fun Nh7 h7=>hw_block<|srg fun N h8=>sm<|sm<|sm<|sm ?_
  refine s0 (hop_call0 (xs:=[_,_,_,_]) ((show HPure Tryz.prog 95 [sgsV l,intV p,intV q,intV 3] (kidsV B) from (by rw [hB];exact cuts_h l p q 3 hl hql hpq))) ⟨rfl,⟨rfl,⟨rfl,⟨rfl,trivial⟩⟩⟩⟩ ⟨fe,⟨fe,⟨fe,⟨fe,trivial⟩⟩⟩⟩) ?_
  refine sa<|snl h8<|hw_seq fun Nh9 h9=>srg fun N h10=>sm ?_
  refine s0 (hnl el_25) ?_
  refine s0 hqi ?_
  refine snl h10 ?_
  refine wc (fun hc1=>?_) (fun hc1=>?_)
  ·have hr1:=hc1;(try simp only [hcs,Int.reduceToNat] at hc1)
   exfalso;omega
  have hr1:=hc1;(try simp only [hcs,Int.reduceToNat] at hc1)
  refine hw_skip<|h9 _<|srg fun N h11=>sm ?_
  refine s0 (hop_build (hs:=[(0,1,_)]) st_27 rfl rfl ⟨rfl,rfl,rfl,rfl,rfl,trivial⟩) ?_
  refine hm_1 11 (hop_alloc (id:=11) (sz:=5) zc_27 rfl rfl (nb rfl) (nb rfl)) rfl rfl pre0 rfl rfl (c':=cb+1) rfl ?_
  refine sw (cb+2) ty_27 ?_
  refine snl h11<|hw_seq fun Nh12 h12=>srg fun N h13=>sa<|snl h13<|hw_block ?_
  refine (hsub_ownc 11 4 7001 1 3 (kidsF []) (partW 3 (cb+2) 0) rfl rfl (fun j hj=>by match j,hj with | 0,_=>exact .inr rfl | 1,_=>exact .inr rfl | 2,_=>exact .inr rfl | 3,_=>exact .inr rfl | 4,_=>exact .inl ⟨rfl,rfl⟩) (by decide) (by decide) (c':=cb+3) rfl).wp ?_
  refine hw_loopc (α:=Nat×List Pt×List Int×Nat×Nat) (fun x c=>⟨126,[(0,.v (.os 9003 x.2.2.2.1 0 x.2.1.length)),(1,.v (sgsV l)),(2,.v (intV p)),(3,.v (intV q)),(9,.v (intV 3)),(10,.v (kidsV B)),(11,.v (.pt 11 cb 0 0)),(12,.v (intV x.1))],[(9003,pt2O x.2.2.2.1 x.2.1),(11,⟨cb,1,5,27,0,partW 3 x.2.2.2.2 x.2.2.1.length⟩),(7001,⟨x.2.2.2.2,x.2.2.1.length,1,3,0,kidsF x.2.2.1⟩)],c⟩) (fun x=>KidI ts ([]:List Pt) x.1 x.2.1 x.2.2.1) (fun x=>m - x.1) ((0,([]:List Pt),[],c,cb+2)) (by exact ⟨Nat.zero_le _,by simp [T.flatL],rfl⟩) (hsub_of rfl (Nat.le_refl _) tsa (hsr rfl (HpSub.cons rfl (by exact osub5 (.refl _) (.refl _) (.refl _) (.refl _) (.refl _)) hsa))) (fun x c hx NhL14 hL14=>?_)
  revert hx hL14;obtain ⟨i,o,ks,gg,gk⟩:=x;intro hx hL14;dsimp only at hx hL14 ⊢
  obtain ⟨hI1,hI2,hI3⟩:=hx
  have hI:KidI ts ([]:List Pt) i o ks:=⟨hI1,hI2,hI3⟩;have hkl:=kid_len hI
  refine hw_seq fun Nh15 h15=>srg fun N h16=>sm ?_
  refine s0 hai ?_
  refine sm ?_
  refine s0 (hnl el_25) ?_
  refine s0 hli ?_
  refine snl h16 ?_
  refine wc (fun hc2=>?_) (fun hc2=>?_)
  ·have hr2:=hc2;(try simp only [hcs,Int.reduceToNat] at hc2)
   have him:i < ts.length:=om;have hin:=hC.hle i om;have hou:=hC.hout i om;have hsz:=hC.hsz i om
   refine hw_skip<|h15 _<|hw_seq fun Nh17 h17=>hw_block<|srg fun N h18=>sm<|sm ?_
   refine s0 hai ?_
   refine s0 (hix el_25) ?_
   refine s0 (HOp.val (v':=intV (B.getD (i+1) 0)) (hop_load_fp ty_3 rfl (nb rfl) (fun h=>(by rfl))) (by exact kids_at (by omega) rfl)) ?_
   refine sa<|snl h18<|hw_seq fun Nh19 h19=>srg fun N h20=>sm ?_
   refine s0 hqi ?_
   refine sm ?_
   refine gm 42 ?_
   refine stg 42 (fun hb=>hop_addi rfl rfl rfl (by simp at hb;exact omx) (by simp at hb;exact omx)) rfl rfl rfl rfl rfl ?_
   refine gm 42 ?_
   refine stg 42 (fun hb=>hop_len_sl (T:=25) rfl (elOf_spec el_25).1 rfl) rfl rfl rfl rfl rfl ?_
   refine stg 42 (fun hb=>hop_lss rfl rfl) rfl rfl rfl rfl rfl ?_
   refine hq_p 48 (hstep_and _ _ rfl rfl rfl) rfl rfl rfl ?_
   refine nu ?_
   refine h20 _ ?_
   refine wc (fun hc3=>?_) (fun hc3=>?_)
   ·have hr3:=hc3;(try simp only [hcs,Int.reduceToNat] at hc3)
    have hi2:i+1 < m:=(by have h:=hr3;simp at h;omega);have hbe:=hend i hi2
    refine hw_region<|sm ?_
    refine s0 (HOp.val (v':=intV (e i:Int)) (hop_subi rfl rfl rfl (by omega) (by omega)) (congrArg intV (show B.getD (i+1) 0 - 1=(e i:Int) by omega))) ?_
    refine sa<|snl h19<|srg fun N h21=>sm<|sm<|sm<|sm ?_
    refine s0 (hix el_25) ?_
    refine s0 (HOp.val (v':=intV (s i:Int)) (hop_load_fp ty_3 rfl (nb rfl) (fun h=>(by rfl))) (by exact kids_at (by omega) (hC.hat i (by omega)))) ?_
    refine sm ?_
    refine hf_callR 58 (xs:=[_,_,_,_]) (pre:=[(9003,_)]) (ih i him _ gg o om) ⟨rfl,⟨rfl,⟨rfl,⟨rfl,trivial⟩⟩⟩⟩ (preC rfl pre0) rfl rfl (fun g3 c1 hx1=>?_)
    (try dsimp only)
    refine sa<|snl h21 ?_
    have hol:(o++T.flat o.length (ts.getD i default)).length=o.length+(ts.getD i default).size:=(by rw [List.length_append,T.flat_len])
    refine hw_region ?_
    refine sf fd_27_4 ?_
    refine sl ty_25 ?_
    refine sm ?_
    refine s0 (hop_len_os (T:=22) rfl (elOf_spec el_22).1 rfl) ?_
    refine s0 hsi ?_
    refine hm_1 64 (hop_buildSlice (id:=64) (hs:=[_]) ei_25 (nb rfl) rfl (nb rfl) ⟨rfl,rfl,rfl,rfl,trivial⟩) rfl rfl pre0 rfl rfl (c':=c1+1) rfl ?_
    refine hm_1 65 (hol_append ei_25 (nb rfl) rfl om (nb rfl) (srl_os0 rfl (nb rfl)) om rfl) rfl rfl (preC rfl (pre1 rfl)) rfl rfl (c':=c1+2) rfl ?_
    refine sf fd_27_4 ?_
    refine sx (c1+3) ty_25 ?_
    refine hseq_nil<|hq_block<|h17 _<|hw_region<|sm ?_
    refine s0 hai ?_
    refine sa<|hseq_nil ?_
    exact hL14 ((i+1,o++T.flat o.length (ts.getD i default),ks++[T.root o.length (ts.getD i default)],g3,c1+1)) _ _ (by (try dsimp only);exact kid_next hI him) (by (try dsimp only);omega) (hsub_of rfl (Nat.le_refl _) tsa (hsr rfl (HpSub.cons rfl (by exact osub5 (.refl _) (.refl _) (.refl _) (.refl _) (sb_os (by simp))) (HpSub.cons rfl (osub_snoc (enc:=fun x _=>intV x) (d:=0) rfl (fun i j _ _=>.refl _) (fun j hj=>by exact sb_int (by rw [List.length_append,T.flat_len];rfl))) HpSub.nil))))
   have hr3:=hc3;(try simp only [hcs,Int.reduceToNat] at hc3)
   have hi2:i+1=m:=(by have h:=hr3;simp at h;omega)
   refine hw_skip<|h19 _<|srg fun N h22=>sm<|sm<|sm<|sm ?_
   refine s0 (hix el_25) ?_
   refine s0 (HOp.val (v':=intV (s i:Int)) (hop_load_fp ty_3 rfl (nb rfl) (fun h=>(by rfl))) (by exact kids_at (by omega) (hC.hat i (by omega)))) ?_
   refine s0 (HOp.val (v':=intV (e i:Int)) (hop_move rfl) (congrArg intV (hlast i hi2))) ?_
   refine hf_callR 58 (xs:=[_,_,_,_]) (pre:=[(9003,_)]) (ih i him _ gg o om) ⟨rfl,⟨rfl,⟨rfl,⟨rfl,trivial⟩⟩⟩⟩ (preC rfl pre0) rfl rfl (fun g3 c2 hx2=>?_)
   (try dsimp only)
   refine sa<|snl h22 ?_
   have hol:(o++T.flat o.length (ts.getD i default)).length=o.length+(ts.getD i default).size:=(by rw [List.length_append,T.flat_len])
   refine hw_region ?_
   refine sf fd_27_4 ?_
   refine sl ty_25 ?_
   refine sm ?_
   refine s0 (hop_len_os (T:=22) rfl (elOf_spec el_22).1 rfl) ?_
   refine s0 hsi ?_
   refine hm_1 64 (hop_buildSlice (id:=64) (hs:=[_]) ei_25 (nb rfl) rfl (nb rfl) ⟨rfl,rfl,rfl,rfl,trivial⟩) rfl rfl pre0 rfl rfl (c':=c2+1) rfl ?_
   refine hm_1 65 (hol_append ei_25 (nb rfl) rfl om (nb rfl) (srl_os0 rfl (nb rfl)) om rfl) rfl rfl (preC rfl (pre1 rfl)) rfl rfl (c':=c2+2) rfl ?_
   refine sf fd_27_4 ?_
   refine sx (c2+3) ty_25 ?_
   refine hseq_nil<|hq_block<|h17 _<|hw_region<|sm ?_
   refine s0 hai ?_
   refine sa<|hseq_nil ?_
   exact hL14 ((i+1,o++T.flat o.length (ts.getD i default),ks++[T.root o.length (ts.getD i default)],g3,c2+1)) _ _ (by (try dsimp only);exact kid_next hI him) (by (try dsimp only);omega) (hsub_of rfl (Nat.le_refl _) tsa (hsr rfl (HpSub.cons rfl (by exact osub5 (.refl _) (.refl _) (.refl _) (.refl _) (sb_os (by simp))) (HpSub.cons rfl (osub_snoc (enc:=fun x _=>intV x) (d:=0) rfl (fun i j _ _=>.refl _) (fun j hj=>by exact sb_int (by rw [List.length_append,T.flat_len];rfl))) HpSub.nil))))
  have hr2:=hc2;(try simp only [hcs,Int.reduceToNat] at hc2)
  have hit:i=ts.length:=om;have hal:=hC.hall;have hol2:o.length=([]:List Pt).length+T.sizeL ts:=(by rw [hkl.1,hit,List.take_length])
  refine hw_exit ?_
  refine hq_then_exit<|hq_then_exit<|hq_block_here<|h12 _<|srg fun N h23=>sm ?_
  refine sl ty_27 ?_
  refine (hsub_shr 68 [(7001,_)] rfl (preC rfl pre0) rfl ((show Fz [(7001,⟨gk,ks.length,1,3,0,kidsF ks⟩)] (.agg 5 (partW 3 gk ks.length 0)) (ptH ⟨3,0,0,[],ks⟩) from fz_agg5 (.imm _) (.imm _) (.imm _) (.imm _) (fz_kids rfl)))).seq ?_
  refine hm_1 69 (hop_buildSlice (id:=69) (hs:=[_]) ei_22 (nb rfl) rfl (nb rfl) ⟨rfl,rfl,rfl,rfl,trivial⟩) rfl rfl pre0 rfl rfl (c':=c+1) rfl ?_
  refine hm_1 70 (hol_append ei_22 (nb rfl) rfl om (nb rfl) (srl_os0 rfl (nb rfl)) om rfl) rfl rfl (preC rfl (pre1 rfl)) rfl rfl (c':=c+2) rfl ?_
  refine sa<|snl h23<|hw_ret<|hq_block_ret<|hq_then_ret<|hq_then_ret<|hq_block_ret<|hq_then_ret ?_
  refine hf_retR1 ok hX RetS.one rfl (rval_tmp rfl) [] rfl pre0 (_) (trivial) (by rfl) (by rfl) (kz_os rfl rfl (by have e:=congrArg List.length (kid_done (k:=3) hI hit);rw [List.length_append] at e;exact e)) ?_
  exact ⟨⟨_,rfl,okz_snoc (o:=o) (x:=⟨3,0,0,[],ks⟩) rfl (kid_done hI hit) (fz_pt (.imm _) (.imm _) (.imm _) (.imm _) (.sl _ _ _ _ fun i j _ _=>.imm _))⟩,trivial⟩
 have hr0:=hc0;(try simp only [hcs,Int.reduceToNat] at hc0)
 exfalso;simp at hr0
theorem cuts_r {l:List Sg} {p q:Nat} {ts:List T} {c:Nat→Nat} (hl:l.length≤1000) (h2:2≤ts.length) (h0:c 0=p) (he:c ts.length=q) (hs:∀ i,i < ts.length→Seg l 1 (c i) (c (i+1)) (ts.getD i default)) :
    Cuts l ([(p:Int)]++placesF c ts.length) ts.length p q ts c (fun i=>c (i+1))∧(∀ i,i < ts.length→([(p:Int)]++placesF c ts.length).getD (i+1) 0=((c (i+1):Nat):Int)):=by
  have up:=up_le (n:=ts.length) (c:=c) (fun i hi=>(seg_lt (hs i hi)).1)
  have hsz:∀ i,i < ts.length→(ts.getD i default).size+2 * c i≤2 * c (i+1):=fun i hi=>by have:=seg_size (hs i hi);omega
  have hout:∀ i,i≤ts.length→T.sizeL (ts.take i)+2 * p≤2 * c i:=by
    intro i
    induction i with
    | zero=>intro _;rw [sizeL_0];omega
    | succ i ih=>intro hi;have:=ih (by omega);have:=hsz i hi;rw [sizeL_take ts i hi];omega
  have hg:∀ i,i < ts.length→([(p:Int)]++placesF c ts.length).getD (i+1) 0=((c (i+1):Nat):Int):=fun i hi=>by
    simp [placesF,List.getD_eq_getElem?_getD,hi]
  have hlt:ts.length≤l.length:=by
    have a:=up 0 ts.length (by omega) (Nat.le_refl _)
    have b:=(seg_lt (hs (ts.length - 1) (by omega))).2
    rw [show ts.length - 1+1=ts.length by omega] at b
    omega
  refine ⟨⟨by simp [placesF],rfl,h2,by omega,fun i hi=>?_,fun i hi=>⟨Nat.le_of_lt (seg_lt (hs i hi)).1,(seg_lt (hs i hi)).2⟩,fun i hi=>hout i (by omega),hsz,?_⟩,hg⟩
  · cases i with
    | zero=>rw [h0];rfl
    | succ i=>exact hg i (by omega)
  · have:=hout ts.length (Nat.le_refl _);rw [List.take_length,he] at this;exact this
theorem cuts_c {l:List Sg} {p q:Nat} {ts:List T} {c e:Nat→Nat} (hl:l.length≤1000) (h2:2≤ts.length) (h0:c 0=p) (he:e (ts.length - 1)=q) (hs:∀ i,i < ts.length→Seg l 2 (c i) (e i) (ts.getD i default)) (hgp:∀ i,i+1 < ts.length→kd l (e i)=4∧c (i+1)=e i+1) :
    Cuts l ([(p:Int)]++placesF c (ts.length - 1)++[(q:Int)]) ts.length p q ts c e∧(∀ i,i+1 < ts.length→([(p:Int)]++placesF c (ts.length - 1)++[(q:Int)]).getD (i+1) 0=(e i:Int)+1)∧(∀ i,i+1=ts.length→([(p:Int)]++placesF c (ts.length - 1)++[(q:Int)]).getD (i+1) 0=(e i:Int)):=by
  have hsz:∀ i,i < ts.length→(ts.getD i default).size+2 * c i≤2 * e i:=fun i hi=>by have:=seg_size (hs i hi);omega
  have hout:∀ i,i < ts.length→T.sizeL (ts.take i)+2 * p≤2 * c i∧i+p≤c i:=by
    intro i
    induction i with
    | zero=>intro _;rw [sizeL_0];omega
    | succ i ih=>intro hi;have:=ih (by omega);have:=hsz i (by omega);have:=hgp i hi;have:=(seg_lt (hs i (by omega))).1;rw [sizeL_take ts i (by omega)];omega
  have hg:∀ i,i+1 < ts.length→([(p:Int)]++placesF c (ts.length - 1)++[(q:Int)]).getD (i+1) 0=((c (i+1):Nat):Int):=fun i hi=>by
    rw [getD_app (by simp [placesF];omega)]
    simp [placesF,List.getD_eq_getElem?_getD,show i < ts.length - 1 by omega]
  have hlt:ts.length≤l.length:=by
    have a:=(hout (ts.length - 1) (by omega)).2
    have b:=(seg_lt (hs (ts.length - 1) (by omega)))
    omega
  refine ⟨⟨by simp [placesF];omega,rfl,h2,by omega,fun i hi=>?_,fun i hi=>⟨Nat.le_of_lt (seg_lt (hs i hi)).1,(seg_lt (hs i hi)).2⟩,fun i hi=>(hout i hi).1,hsz,?_⟩,fun i hi=>by rw [hg i hi,(hgp i hi).2];rfl,fun i hi=>?_⟩
  · cases i with
    | zero=>rw [h0];rfl
    | succ i=>exact hg i (by omega)
  · have a:=hout (ts.length - 1) (by omega)
    have b:=hsz (ts.length - 1) (by omega)
    have d:=sizeL_take ts (ts.length - 1) (by omega)
    rw [show ts.length - 1+1=ts.length by omega,List.take_length] at d
    rw [he] at b;omega
  · have hl1:([(p:Int)]++placesF c (ts.length - 1)).length=i+1:=by simp [placesF];omega
    rw [←hl1,getD_snoc,←he,show ts.length - 1=i by omega]
theorem build_seg (l:List Sg) (hl:l.length≤1000) {v p q:Nat} {t:T} (h:Seg l v p q t):BdC l p q t:=by
  induction h with
  | name p h=>exact bd_name l p (p+1) hl h rfl (seg_lt (.name p h)).2 (by omega) (v:=0) (by decide) (.name p h)
  | group p q t h hs h3 ih=>have a:=seg_lt hs;have b:=kd_lt (l:=l) (i:=q) (by rw [h3];decide);exact bd_group l p (q+1) hl q t h h3 a.1 rfl b (by omega) (v:=0) (by decide) (.group p q t h hs h3) ih
  | item p q t _ _ ih=>exact ih
  | times p q t hs h5 ih=>have a:=seg_lt hs;have b:=kd_lt (l:=l) (i:=q) (by rw [h5];decide);exact bd_times l p (q+1) hl q t h5 hs a.1 rfl b (by omega) (v:=1) (by decide) (.times p q t hs h5) ih
  | row1 p q t _ ih=>exact ih
  | row p q ts c h2 h0 he hs ih =>
    have hseg:Seg l 2 p q (.many 2 ts):=.row p q ts c h2 h0 he hs
    have a:=seg_lt hseg
    have C:=cuts_r hl h2 h0 he hs
    exact bd_row l p q hl ts _ _ _ _ C.1 a.2 (by omega) ih hseg (cuts_items h0 he (by omega) hs).symm C.2
  | choice1 p q t _ ih=>exact ih
  | choice p q ts c e h2 h0 he hs hg ih =>
    have a:=seg_lt (.choice p q ts c e h2 h0 he hs hg)
    have C:=cuts_c hl h2 h0 he hs hg
    exact bd_choice l p q hl ts _ _ _ _ C.1 a.2 (by omega) ih (cuts_rows (by omega) h0 he hs hg).symm C.2.1 C.2.2
theorem build_segN (l:List Sg) (hl:l.length≤1000) {v p q:Nat} {t:T} (h:Seg l v p q t):BdN l p q t:=by
  induction h with
  | name p h=>exact bd_nameN l p (p+1) hl h rfl (seg_lt (.name p h)).2 (by omega) (v:=0) (by decide) (.name p h)
  | group p q t h hs h3 ih=>have a:=seg_lt hs;have b:=kd_lt (l:=l) (i:=q) (by rw [h3];decide);exact bd_groupN l p (q+1) hl q t h h3 a.1 rfl b (by omega) (v:=0) (by decide) (.group p q t h hs h3) (build_seg l hl hs)
  | item p q t _ _ ih=>exact ih
  | times p q t hs h5 ih=>have a:=seg_lt hs;have b:=kd_lt (l:=l) (i:=q) (by rw [h5];decide);exact bd_timesN l p (q+1) hl q t h5 hs a.1 rfl b (by omega) (v:=1) (by decide) (.times p q t hs h5) (build_seg l hl hs)
  | row1 p q t _ ih=>exact ih
  | row p q ts c h2 h0 he hs ih =>
    have hseg:Seg l 2 p q (.many 2 ts):=.row p q ts c h2 h0 he hs
    have a:=seg_lt hseg
    have C:=cuts_r hl h2 h0 he hs
    exact bd_rowN l p q hl ts _ _ _ _ C.1 a.2 (by omega) (fun i hi=>build_seg l hl (hs i hi)) hseg (cuts_items h0 he (by omega) hs).symm C.2
  | choice1 p q t _ ih=>exact ih
  | choice p q ts c e h2 h0 he hs hg ih =>
    have a:=seg_lt (.choice p q ts c e h2 h0 he hs hg)
    have C:=cuts_c hl h2 h0 he hs hg
    exact bd_choiceN l p q hl ts _ _ _ _ C.1 a.2 (by omega) (fun i hi=>build_seg l hl (hs i hi)) (cuts_rows (by omega) h0 he hs hg).symm C.2.1 C.2.2
theorem refParse_h (s:List UInt8) (r:List Pt×Int×Int) (hs:s.length≤9223372036854775807) (hp:ParseIs s r) (c:Nat):HFun Tryz.prog 40 c [strV s] [] (RetP (fun (_:Unit) _=>True) (fun _=>parseH r) (fun _=>[])):=by
 have hlen:=lexO_len s
 have hlx:=refLex_h s hs
 have hW:∀ l,lexV s=.ok l→lexO (lexV s)=(l,0,0):=fun l h=>by rw [h];rfl
 rcases hp with ⟨e,hv⟩ | hv | ⟨l,q,hv,hne,hq,hC⟩ | ⟨l,hv,hne,hC⟩ | ⟨l,t,hv,hsg⟩
 ·skip
  have he:=lexV_err hv
  rw [hv] at hlx hlen
  replace hlx:HPure Tryz.prog 38 [strV s] (lexH ([],e.1,e.2)):=hlx
  refine hfun_of Tryz.func40 rfl kr _ _ _ _ rfl 42 rfl rfl (fun X ok hX=>?_)
  refine srg fun N h1=>sa<|sa<|sa<|snl h1<|srg fun N h2=>sm ?_
  refine s0 (hop_call0 (xs:=[_]) (hlx) ⟨rfl,trivial⟩ ⟨fe,trivial⟩) ?_
  refine sm ?_
  refine s0 hex ?_
  refine s0 hex ?_
  refine s0 hex ?_
  refine sa<|sa<|sa<|snl h2<|hw_seq fun Nh3 h3=>srg fun N h4=>sm ?_
  refine s0 (hop_neq rfl rfl) ?_
  refine snl h4 ?_
  refine wc (fun hc0=>?_) (fun hc0=>?_)
  ·have hr0:=hc0;(try simp only [hcs,Int.reduceToNat] at hc0)
   refine srg fun N h5=>sm<|sm<|sa<|sa<|sa<|snl h5<|hw_ret<|hq_then_ret ?_
   refine hf_retR3 ok hX RetS.one rfl (rval_tmp rfl) (rval_tmp rfl) (rval_tmp rfl) [] rfl pre0 (()) (trivial) (by rfl) (by rfl) (kz_t3 (.fz _ _ (.nil 0 5 _ (by decide) none)) kza kza) ?_
   exact trivial
  have hr0:=hc0;(try simp only [hcs,Int.reduceToNat] at hc0)
  exfalso;exact he hc0
 ·skip
  rw [hv] at hlx hlen
  replace hlx:HPure Tryz.prog 38 [strV s] (lexH ([],0,0)):=hlx
  have hC:chk ([]:List Sg) 0 0 true true=(-1,false):=by rw [chk_end (l:=[]) (i:=0) (Nat.le_refl _)];rfl
  have hch:=check_h [] (by decide)
  rw [hC] at hch
  refine hfun_of Tryz.func40 rfl kr _ _ _ _ rfl 42 rfl rfl (fun X ok hX=>?_)
  refine srg fun N h1=>sa<|sa<|sa<|snl h1<|srg fun N h2=>sm ?_
  refine s0 (hop_call0 (xs:=[_]) (hlx) ⟨rfl,trivial⟩ ⟨fe,trivial⟩) ?_
  refine sm ?_
  refine s0 hex ?_
  refine s0 hex ?_
  refine s0 hex ?_
  refine sa<|sa<|sa<|snl h2<|hw_seq fun Nh3 h3=>srg fun N h4=>sm ?_
  refine s0 (hop_neq rfl rfl) ?_
  refine snl h4 ?_
  refine wc (fun hc0=>?_) (fun hc0=>?_)
  ·have hr0:=hc0;(try simp only [hcs,Int.reduceToNat] at hc0)
   exfalso;first | exact hc0 rfl | exact hc0 trivial
  have hr0:=hc0;(try simp only [hcs,Int.reduceToNat] at hc0)
  refine hw_skip<|h3 _<|srg fun N h5=>sm ?_
  refine s0 (hop_call0 (xs:=[_]) (hch) ⟨rfl,trivial⟩ ⟨fe,trivial⟩) ?_
  refine sm ?_
  refine s0 hex ?_
  refine s0 hex ?_
  refine sa<|sa<|snl h5<|hw_seq fun Nh6 h6=>srg fun N h7=>sm ?_
  refine s0 (hop_geq rfl rfl) ?_
  refine snl h7 ?_
  refine wc (fun hc1=>?_) (fun hc1=>?_)
  ·have hr1:=hc1;(try simp only [hcs,Int.reduceToNat] at hc1)
   exfalso;simp at hr1
  have hr1:=hc1;(try simp only [hcs,Int.reduceToNat] at hc1)
  refine hw_skip<|h6 _<|hw_seq fun Nh8 h8=>srg fun N h9=>sm<|snl h9 ?_
  refine wc (fun hc2=>?_) (fun hc2=>?_)
  ·have hr2:=hc2;(try simp only [hcs,Int.reduceToNat] at hc2)
   exfalso;simp at hr2
  have hr2:=hc2;(try simp only [hcs,Int.reduceToNat] at hc2)
  refine hw_skip<|h8 _<|hw_seq fun Nh10 h10=>srg fun N h11=>sm ?_
  refine s0 (hnl el_76) ?_
  refine s0 hqi ?_
  refine snl h11 ?_
  refine wc (fun hc3=>?_) (fun hc3=>?_)
  ·have hr3:=hc3;(try simp only [hcs,Int.reduceToNat] at hc3)
   refine srg fun N h12=>sa<|sa<|sa<|snl h12<|hw_ret<|hq_then_ret ?_
   refine hf_retR3 ok hX RetS.one rfl (rval_tmp rfl) (rval_tmp rfl) (rval_tmp rfl) [] rfl pre0 (()) (trivial) (by rfl) (by rfl) (kz_t3 (.fz _ _ (.nil 0 5 _ (by decide) none)) kza kza) ?_
   exact trivial
  have hr3:=hc3;(try simp only [hcs,Int.reduceToNat] at hc3)
  exfalso;exact absurd hr3 (by decide)
 ·skip
  rw [hv] at hlx hlen
  have hll:l.length≤200:=hlen
  replace hlx:HPure Tryz.prog 38 [strV s] (lexH (l,0,0)):=hlx
  clear hlen
  have hch:=check_h l (by omega)
  rw [hC] at hch
  refine hfun_of Tryz.func40 rfl kr _ _ _ _ rfl 42 rfl rfl (fun X ok hX=>?_)
  refine srg fun N h1=>sa<|sa<|sa<|snl h1<|srg fun N h2=>sm ?_
  refine s0 (hop_call0 (xs:=[_]) (hlx) ⟨rfl,trivial⟩ ⟨fe,trivial⟩) ?_
  refine sm ?_
  refine s0 hex ?_
  refine s0 hex ?_
  refine s0 hex ?_
  refine sa<|sa<|sa<|snl h2<|hw_seq fun Nh3 h3=>srg fun N h4=>sm ?_
  refine s0 (hop_neq rfl rfl) ?_
  refine snl h4 ?_
  refine wc (fun hc0=>?_) (fun hc0=>?_)
  ·have hr0:=hc0;(try simp only [hcs,Int.reduceToNat] at hc0)
   exfalso;first | exact hc0 rfl | exact hc0 trivial
  have hr0:=hc0;(try simp only [hcs,Int.reduceToNat] at hc0)
  refine hw_skip<|h3 _<|srg fun N h5=>sm ?_
  refine s0 (hop_call0 (xs:=[_]) (hch) ⟨rfl,trivial⟩ ⟨fe,trivial⟩) ?_
  refine sm ?_
  refine s0 hex ?_
  refine s0 hex ?_
  refine sa<|sa<|snl h5<|hw_seq fun Nh6 h6=>srg fun N h7=>sm ?_
  refine s0 (hop_geq rfl rfl) ?_
  refine snl h7 ?_
  refine wc (fun hc1=>?_) (fun hc1=>?_)
  ·have hr1:=hc1;(try simp only [hcs,Int.reduceToNat] at hc1)
   refine hw_seq fun Nh8 h8=>hd_start ?_
   refine dm 1 ?_
   refine dm 2 ?_
   refine d0 3 (hop_ia_sl el_76 rfl rfl om (by dsimp only;omega) (nb rfl)) ?_
   refine d0 4 (hop_fa_fp fd_80_1 rfl (nb rfl)) ?_
   refine d0 5 (hlf ty_3) ?_
   refine d0 6 (hop_assign rfl) ?_
   refine d0 7 (hop_assign rfl) ?_
   refine d0 8 (hop_assign rfl) ?_
   refine hd_nil kr kr (c':=c+8) rfl ?_
   refine h8 _<|hw_ret<|hq_then_ret ?_
   refine hf_retR3 ok hX RetS.one rfl (rval_tmp rfl) (rval_tmp rfl) (rval_tmp rfl) [] rfl pre0 (()) (trivial) (by rfl) (by rfl) (kz_t3 (.fz _ _ (.nil 0 5 _ (by decide) none)) kza kza) ?_
   exact trivial
  have hr1:=hc1;(try simp only [hcs,Int.reduceToNat] at hc1)
  exfalso;omega
 ·skip
  rw [hv] at hlx hlen
  have hll:l.length≤200:=hlen
  replace hlx:HPure Tryz.prog 38 [strV s] (lexH (l,0,0)):=hlx
  clear hlen
  have hch:=check_h l (by omega)
  rw [hC] at hch
  refine hfun_of Tryz.func40 rfl kr _ _ _ _ rfl 42 rfl rfl (fun X ok hX=>?_)
  refine srg fun N h1=>sa<|sa<|sa<|snl h1<|srg fun N h2=>sm ?_
  refine s0 (hop_call0 (xs:=[_]) (hlx) ⟨rfl,trivial⟩ ⟨fe,trivial⟩) ?_
  refine sm ?_
  refine s0 hex ?_
  refine s0 hex ?_
  refine s0 hex ?_
  refine sa<|sa<|sa<|snl h2<|hw_seq fun Nh3 h3=>srg fun N h4=>sm ?_
  refine s0 (hop_neq rfl rfl) ?_
  refine snl h4 ?_
  refine wc (fun hc0=>?_) (fun hc0=>?_)
  ·have hr0:=hc0;(try simp only [hcs,Int.reduceToNat] at hc0)
   exfalso;first | exact hc0 rfl | exact hc0 trivial
  have hr0:=hc0;(try simp only [hcs,Int.reduceToNat] at hc0)
  refine hw_skip<|h3 _<|srg fun N h5=>sm ?_
  refine s0 (hop_call0 (xs:=[_]) (hch) ⟨rfl,trivial⟩ ⟨fe,trivial⟩) ?_
  refine sm ?_
  refine s0 hex ?_
  refine s0 hex ?_
  refine sa<|sa<|snl h5<|hw_seq fun Nh6 h6=>srg fun N h7=>sm ?_
  refine s0 (hop_geq rfl rfl) ?_
  refine snl h7 ?_
  refine wc (fun hc1=>?_) (fun hc1=>?_)
  ·have hr1:=hc1;(try simp only [hcs,Int.reduceToNat] at hc1)
   exfalso;simp at hr1
  have hr1:=hc1;(try simp only [hcs,Int.reduceToNat] at hc1)
  refine hw_skip<|h6 _<|hw_seq fun Nh8 h8=>srg fun N h9=>sm<|snl h9 ?_
  refine wc (fun hc2=>?_) (fun hc2=>?_)
  ·have hr2:=hc2;(try simp only [hcs,Int.reduceToNat] at hc2)
   refine srg fun N h10=>sm ?_
   refine s0 (hop_len_strl (T:=9) rfl kr rfl) ?_
   refine sa<|sa<|sa<|snl h10<|hw_ret<|hq_then_ret ?_
   refine hf_retR3 ok hX RetS.one rfl (rval_tmp rfl) (rval_tmp rfl) (rval_tmp rfl) [] rfl pre0 (()) (trivial) (by rfl) (by rfl) (kz_t3 (.fz _ _ (.nil 0 5 _ (by decide) none)) kza kza) ?_
   exact trivial
  have hr2:=hc2;(try simp only [hcs,Int.reduceToNat] at hc2)
  exfalso;simp at hr2
 ·skip
  rw [hv] at hlx hlen
  have hll:l.length≤200:=hlen
  replace hlx:HPure Tryz.prog 38 [strV s] (lexH (l,0,0)):=hlx
  clear hlen
  have hch:=check_h l (by omega)
  rw [all_good hsg] at hch
  have hlt:=seg_lt hsg
  refine hfun_of Tryz.func40 rfl kr _ _ _ _ rfl 42 rfl rfl (fun X ok hX=>?_)
  refine srg fun N h1=>sa<|sa<|sa<|snl h1<|srg fun N h2=>sm ?_
  refine s0 (hop_call0 (xs:=[_]) (hlx) ⟨rfl,trivial⟩ ⟨fe,trivial⟩) ?_
  refine sm ?_
  refine s0 hex ?_
  refine s0 hex ?_
  refine s0 hex ?_
  refine sa<|sa<|sa<|snl h2<|hw_seq fun Nh3 h3=>srg fun N h4=>sm ?_
  refine s0 (hop_neq rfl rfl) ?_
  refine snl h4 ?_
  refine wc (fun hc0=>?_) (fun hc0=>?_)
  ·have hr0:=hc0;(try simp only [hcs,Int.reduceToNat] at hc0)
   exfalso;first | exact hc0 rfl | exact hc0 trivial
  have hr0:=hc0;(try simp only [hcs,Int.reduceToNat] at hc0)
  refine hw_skip<|h3 _<|srg fun N h5=>sm ?_
  refine s0 (hop_call0 (xs:=[_]) (hch) ⟨rfl,trivial⟩ ⟨fe,trivial⟩) ?_
  refine sm ?_
  refine s0 hex ?_
  refine s0 hex ?_
  refine sa<|sa<|snl h5<|hw_seq fun Nh6 h6=>srg fun N h7=>sm ?_
  refine s0 (hop_geq rfl rfl) ?_
  refine snl h7 ?_
  refine wc (fun hc1=>?_) (fun hc1=>?_)
  ·have hr1:=hc1;(try simp only [hcs,Int.reduceToNat] at hc1)
   exfalso;simp at hr1
  have hr1:=hc1;(try simp only [hcs,Int.reduceToNat] at hc1)
  refine hw_skip<|h6 _<|hw_seq fun Nh8 h8=>srg fun N h9=>sm<|snl h9 ?_
  refine wc (fun hc2=>?_) (fun hc2=>?_)
  ·have hr2:=hc2;(try simp only [hcs,Int.reduceToNat] at hc2)
   exfalso;simp at hr2
  have hr2:=hc2;(try simp only [hcs,Int.reduceToNat] at hc2)
  refine hw_skip<|h8 _<|hw_seq fun Nh10 h10=>srg fun N h11=>sm ?_
  refine s0 (hnl el_76) ?_
  refine s0 hqi ?_
  refine snl h11 ?_
  refine wc (fun hc3=>?_) (fun hc3=>?_)
  ·have hr3:=hc3;(try simp only [hcs,Int.reduceToNat] at hc3)
   exfalso;have h:=hr3;simp at h;omega
  have hr3:=hc3;(try simp only [hcs,Int.reduceToNat] at hc3)
  refine hw_skip<|h10 _<|srg fun N h12=>sm<|sm ?_
  refine s0 (hnl el_76) ?_
  refine hf_callR 41 (xs:=[_,_,_,_]) (pre:=[]) (build_segN l om hsg _) ⟨rfl,⟨rfl,⟨rfl,⟨rfl,trivial⟩⟩⟩⟩ pre0 rfl rfl (fun g3 c1 hx1=>?_)
  (try dsimp only)
  refine sa<|sa<|sa<|snl h12<|hw_ret ?_
  refine hf_retR3 ok hX RetS.one rfl (rval_tmp rfl) (rval_tmp rfl) (rval_tmp rfl) [(9003,_)] rfl (preC rfl pre0) (()) (trivial) (by rfl) (by rfl) (kz_t3 (.fz _ _ (fz_row (l:=T.flat 0 t) (enc:=ptF) (d:=default) (List.mem_cons_self ..) rfl rfl (Nat.le_refl _) (fun i j hi hj=>pt_fz _ j))) kza kza) ?_
  exact trivial
set_option maxHeartbeats 1000000
theorem ext_getD {α:Type} (d:α) {a b:List α} (hl:a.length=b.length) (h:∀ j,j < a.length→a.getD j d=b.getD j d):a=b:=by
 apply List.ext_getElem hl
 intro i h1 h2
 have:=h i h1
 rwa [List.getD_eq_getElem?_getD,List.getD_eq_getElem?_getD,List.getElem?_eq_getElem h1,List.getElem?_eq_getElem h2] at this
@[reducible] def PtB (l:List Pt):Prop:=l.length≤100000∧∀ i,i < l.length→(l.getD i default).kids.length≤100000∧(l.getD i default).name.length≤1000000
theorem getD_cut (a:List Int) {lo n k:Nat} (hk:k < n) (h:lo+n≤a.length):((a.drop lo).take n).getD k 0=a.getD (lo+k) 0:=by
 rw [List.getD_eq_getElem?_getD,List.getD_eq_getElem?_getD,List.getElem?_take,if_pos hk,List.getElem?_drop]
theorem equal_h (g lo n:Nat) (a b:List Int) (ha:a.length≤1000000) (hb:b.length≤1000000) (hn:lo+n≤a.length):HFunD Tryz.prog 62 [.os 8001 g lo n,kidsV b] [(8001,⟨g,a.length,1,3,0,kidsF a⟩)] (boolV (decide ((a.drop lo).take n=b))) [(8001,⟨g,a.length,1,3,0,kidsF a⟩)]:=by
 have hcl:((a.drop lo).take n).length=n:=by rw [List.length_take,List.length_drop];omega
 intro c
 refine hfun_of Tryz.func62 rfl kr _ _ _ _ rfl 26 rfl rfl (fun X ok hX=>?_)
 refine srg fun N h1=>sa<|snl h1<|hw_seq fun Nh2 h2=>srg fun N h3=>sm ?_
 refine s0 (hop_len_os (T:=25) rfl (elOf_spec el_25).1 rfl) ?_
 refine sm ?_
 refine s0 (hnl el_25) ?_
 refine s0 (hop_neq rfl rfl) ?_
 refine snl h3 ?_
 refine wc (fun hc0=>?_) (fun hc0=>?_)
 ·have hr0:=hc0;(try simp only [hcs,Int.reduceToNat] at hc0)
  refine srg fun N h4=>sa<|snl h4<|hw_ret<|hq_then_ret ?_
  refine hf_retR1 ok hX RetS.one rfl (rval_tmp rfl) [] rfl pre0 (()) (trivial) (by rfl) (by rfl) (by rw [decide_eq_false (fun h=>hc0 (by rw [←h,hcl]))];exact kza) ?_
  exact ⟨⟨_,rfl,.of (fun i j _ _=>.fz _ _ (.imm _))⟩,trivial⟩
 have hr0:=hc0;(try simp only [hcs,Int.reduceToNat] at hc0)
 refine hw_skip<|h2 _<|hw_seq fun Nh5 h5=>srg fun N h6=>sm ?_
 refine s0 (hop_len_os (T:=25) rfl (elOf_spec el_25).1 rfl) ?_
 refine sm<|snl h6<|hw_block ?_
 refine hw_loopc (α:=Nat) (fun x c=>⟨26,[(0,.v (.os 8001 g lo n)),(1,.v (kidsV b)),(12,.v (intV n)),(13,.v (intV x))],[(8001,⟨g,a.length,1,3,0,kidsF a⟩)],c⟩) (fun x=>x≤n∧∀ j,j < x→a.getD (lo+j) 0=b.getD j 0) (fun x=>n - x) (0) (by exact ⟨Nat.zero_le _,fun j hj=>absurd hj (Nat.not_lt_zero _)⟩) (hsub_of rfl (Nat.le_refl _) tsa hsa) (fun k c hx NhL7 hL7=>?_)
 (try dsimp only at hx hL7 ⊢)
 obtain ⟨hk,hE⟩:=hx
 refine srg fun N h8=>?_
 refine s0 hli ?_
 refine snl h8<|hw_seq fun Nh9 h9=>?_
 refine wc (fun hc1=>?_) (fun hc1=>?_)
 ·have hr1:=hc1;(try simp only [hcs,Int.reduceToNat] at hc1)
  refine hw_skip<|h9 _<|hw_seq fun Nh10 h10=>hw_block<|srg fun N h11=>sm<|sa<|snl h11<|hw_seq fun Nh12 h12=>hd_start ?_
  refine dm 1 ?_
  refine dm 2 ?_
  refine hd_q 18 (hol_ia_os el_25 rfl rfl om om) rfl rfl (pre1 rfl) rfl rfl (k':=3) rfl ?_
  refine hd_q 19 (HOp.val (v':=intV (a.getD (lo+k) 0)) (hol_load ty_3 rfl (by omega) (nb rfl) (fun h=>(by rfl))) (rfl)) rfl rfl (pre1 rfl) rfl rfl (k':=4) rfl ?_
  refine dm 5 ?_
  refine dm 6 ?_
  refine d0 7 (hix el_25) ?_
  refine d0 8 (HOp.val (v':=intV (b.getD k 0)) (hop_load_fp ty_3 rfl (nb rfl) (fun h=>(by rfl))) (rfl)) ?_
  refine d0 9 (hop_neq rfl rfl) ?_
  refine hd_nil kr kr (c':=c+9) rfl ?_
  refine h12 _ ?_
  refine wc (fun hc2=>?_) (fun hc2=>?_)
  ·have hr2:=hc2;(try simp only [hcs,Int.reduceToNat] at hc2)
   refine srg fun N h13=>sa<|snl h13<|hw_ret<|hq_block_ret<|hq_then_ret<|hq_then_ret<|hq_block_ret<|hq_then_ret ?_
   refine hf_retR1 ok hX RetS.one rfl (rval_tmp rfl) [] rfl pre0 (()) (trivial) (by rfl) (by rfl) (by rw [decide_eq_false (fun h=>hc2 (by rw [←h,getD_cut a om hn]))];exact kza) ?_
   exact ⟨⟨_,rfl,.of (fun i j _ _=>.fz _ _ (.imm _))⟩,trivial⟩
  have hr2:=hc2;(try simp only [hcs,Int.reduceToNat] at hc2)
  refine hw_skip<|hq_block<|h10 _<|hw_region ?_
  refine s0 hai ?_
  refine sm<|hseq_nil ?_
  exact hL7 (k+1) _ _ (by (try dsimp only);exact ⟨by omega,fun j hj=>by by_cases e:j=k;(· subst e;exact hc2);exact hE j om⟩) (by (try dsimp only);omega) (hsub_of rfl (Nat.le_refl _) tsa hsa)
 have hr1:=hc1;(try simp only [hcs,Int.reduceToNat] at hc1)
 refine hw_exit ?_
 refine hq_then_exit<|hq_then_exit<|hq_block_here<|h5 _<|srg fun N h14=>sa<|snl h14<|hw_ret ?_
 refine hf_retR1 ok hX RetS.one rfl (rval_tmp rfl) [] rfl pre0 (()) (trivial) (by rfl) (by rfl) (by rw [decide_eq_true (ext_getD 0 om (fun j hj=>by rw [getD_cut a om hn];exact hE j om))];exact kza) ?_
 exact ⟨⟨_,rfl,.of (fun i j _ _=>.fz _ _ (.imm _))⟩,trivial⟩
theorem beq_d (a b:Int):(a == b)=decide (a=b):=rfl
theorem int_0 (n:Nat):decide ((n:Int)=0)=decide (n=0):=decide_eq_decide.2 (by omega)
theorem int_1 (n:Nat):decide ((n:Int)=1)=decide (n=1):=decide_eq_decide.2 (by omega)
theorem int_lt1 (n:Nat):decide (1 < (n:Int))=decide (1 < n):=decide_eq_decide.2 (by omega)
theorem name6_h (s:List UInt8) (hs:s.length≤1000000):HPure Tryz.prog 88 [strV s] (boolV (nameV s)):=by
  have hlen:=lexO_len s
  have hlx:=lex_h s hs
  have hN:nameV s=(match lexO (lexV s) with | (l,_,e)=>decide (e=0)&&decide (l.length=1)&&decide ((l.getD 0 default).kind=1)&&decide ((l.getD 0 default).name=s)):=by
    unfold nameV
    cases hv:lexV s with
    | error e =>
      have h:=lexV_err hv
      have h2:¬ (e.2=0):=h
      show false=(decide (e.2=0)&&_&&_&&_)
      rw [decide_eq_false h2];rfl
    | ok l =>
      match l with
      | []=>rfl
      | [x]=>rfl
      | x::y::l=>simp [lexO]
  generalize hr:lexO (lexV s)=r at hlen hlx hN
  rw [hN]
  obtain ⟨l,a,e⟩:=r
  refine hpure_of Tryz.func88 rfl kr _ _ _ rfl 34 rfl rfl (fun w F=>?_)
  refine srg fun N h1=>sa<|snl h1<|srg fun N h2=>sm ?_
  refine s0 (hop_call0 (xs:=[_]) (hlx) ⟨rfl,trivial⟩ ⟨fe,trivial⟩) ?_
  refine sm ?_
  refine s0 hex ?_
  refine s0 hex ?_
  refine s0 hex ?_
  refine sa<|sa<|sa<|snl h2<|srg fun N h3=>sm ?_
  refine s0 hqi ?_
  refine sm ?_
  refine gm 14 ?_
  refine stg 14 (fun hb=>hop_len_sl (T:=105) rfl (elOf_spec el_105).1 rfl) rfl rfl rfl rfl rfl ?_
  refine stg 14 (fun hb=>hop_eql rfl rfl) rfl rfl rfl rfl rfl ?_
  refine hq_p 18 (hstep_and _ _ rfl rfl rfl) rfl rfl rfl ?_
  refine sm ?_
  refine gm 19 ?_
  refine stg 19 (fun hb=>hop_ia_sl el_105 rfl rfl (by simp at hb;exact omx) (by simp at hb;exact omx) (nb rfl)) rfl rfl rfl rfl rfl ?_
  refine stg 19 (fun hb=>hop_fa_fp fd_113_0 rfl (nb rfl)) rfl rfl rfl rfl rfl ?_
  refine stg 19 (fun hb=>HOp.val (v':=intV (l.getD 0 default).kind) (hop_load_fp ty_3 rfl (nb rfl) (fun h=>(by rfl))) (rfl)) rfl rfl rfl rfl rfl ?_
  refine stg 19 (fun hb=>hop_eql rfl rfl) rfl rfl rfl rfl rfl ?_
  refine hq_p 25 (hstep_and _ _ rfl rfl rfl) rfl rfl rfl ?_
  refine sm ?_
  refine gm 26 ?_
  refine stg 26 (fun hb=>hop_ia_sl el_105 rfl rfl (by simp at hb;exact omx) (by simp at hb;exact omx) (nb rfl)) rfl rfl rfl rfl rfl ?_
  refine stg 26 (fun hb=>hop_fa_fp fd_113_4 rfl (nb rfl)) rfl rfl rfl rfl rfl ?_
  refine stg 26 (fun hb=>HOp.val (v':=strV (l.getD 0 default).name) (hop_load_fp ty_9 rfl (nb rfl) (fun h=>(by rfl))) (rfl)) rfl rfl rfl rfl rfl ?_
  refine gm 26 ?_
  refine stg 26 (fun hb=>hop_seq_l rfl rfl) rfl rfl rfl rfl rfl ?_
  refine hq_p 33 (hstep_and _ _ rfl rfl rfl) rfl rfl rfl ?_
  refine sa ?_
  refine nu ?_
  refine h3 _<|hw_ret ?_
  refine hq_ret1 rfl (rval_tmp rfl) [] rfl pre0 ?_
  exact fz_bool (by simp only [beq_d,int_1])
theorem alone_h (x:Pt) (hk:x.kids.length≤1000000) (hn:x.name.length≤1000000):HPure Tryz.prog 61 [ptH x] (boolV (aloneV x)):=by
 unfold aloneV
 refine hpure_of Tryz.func61 rfl kr _ _ _ rfl 89 rfl rfl (fun w F=>?_)
 refine srg fun N h1=>?_
 refine hm_1 1 (hop_box (id:=1) (sz:=5) rfl rfl rfl (nb rfl) (nb rfl)) rfl rfl pre0 rfl rfl (c':=1) rfl ?_
 refine sa<|snl h1<|hw_seq fun Nh2 h2=>srg fun N h3=>?_
 refine sf fd_29_0 ?_
 refine sl ty_3 ?_
 refine snl h3<|hw_block<|srg fun N h4=>?_
 refine s0 hqi ?_
 refine sa<|snl h4 ?_
 refine wc (fun hc0=>?_) (fun hc0=>?_)
 ·have hr0:=hc0;(try simp only [hcs,Int.reduceToNat] at hc0)
  refine srg fun N h5=>?_
  refine sf fd_29_4 ?_
  refine sl ty_25 ?_
  refine s0 (hnl el_25) ?_
  refine s0 hqi ?_
  refine sm ?_
  refine stg 12 (fun hb=>hop_fa fd_29_1 rfl) rfl rfl rfl rfl rfl ?_
  refine hq_g 14 4 12 true _ (fun hb=>hol_load ty_3 rfl (nb rfl) (nb rfl) rq) rfl rfl rfl rfl (pre1 rfl) rfl rfl rfl ?_
  refine stg 12 (fun hb=>hop_eql rfl rfl) rfl rfl rfl rfl rfl ?_
  refine hq_p 16 (hstep_and _ _ rfl rfl rfl) rfl rfl rfl ?_
  refine sm ?_
  refine stg 17 (fun hb=>hop_fa fd_29_2 rfl) rfl rfl rfl rfl rfl ?_
  refine hq_g 19 9 17 true _ (fun hb=>hol_load ty_3 rfl (nb rfl) (nb rfl) rq) rfl rfl rfl rfl (pre1 rfl) rfl rfl rfl ?_
  refine stg 17 (fun hb=>hop_eql rfl rfl) rfl rfl rfl rfl rfl ?_
  refine hq_p 21 (hstep_and _ _ rfl rfl rfl) rfl rfl rfl ?_
  refine sm ?_
  refine stg 22 (fun hb=>hop_fa fd_29_3 rfl) rfl rfl rfl rfl rfl ?_
  refine hq_g 24 14 22 true _ (fun hb=>hol_load ty_9 rfl (nb rfl) (nb rfl) rq) rfl rfl rfl rfl (pre1 rfl) rfl rfl rfl ?_
  refine stg 22 (fun hb=>hop_call0 (xs:=[_]) (name6_h x.name hn) ⟨rfl,trivial⟩ ⟨fe,trivial⟩) rfl rfl rfl rfl rfl ?_
  refine hq_p 26 (hstep_and _ _ rfl rfl rfl) rfl rfl rfl ?_
  refine sa ?_
  refine nu ?_
  refine h5 _<|hw_ret<|hq_block_ret<|hq_then_ret ?_
  refine hq_ret1 rfl (rval_tmp rfl) [] rfl pre0 ?_
  rw [if_pos hc0];exact fz_bool (by simp only [beq_d,int_0])
 have hr0:=hc0;(try simp only [hcs,Int.reduceToNat] at hc0)
 refine hw_seq fun Nh6 h6=>srg fun N h7=>?_
 refine s0 hqi ?_
 refine sa<|snl h7 ?_
 refine wc (fun hc1=>?_) (fun hc1=>?_)
 ·have hr1:=hc1;(try simp only [hcs,Int.reduceToNat] at hc1)
  refine hw_skip<|h6 _ ?_
  refine wc (fun hc2=>?_) (fun hc2=>?_)
  ·have hr2:=hc2;(try simp only [hcs,Int.reduceToNat] at hc2)
   refine srg fun N h8=>?_
   refine sf fd_29_4 ?_
   refine sl ty_25 ?_
   refine s0 (hnl el_25) ?_
   refine s0 (hop_gtr rfl rfl) ?_
   refine sm ?_
   refine stg 34 (fun hb=>hop_fa fd_29_1 rfl) rfl rfl rfl rfl rfl ?_
   refine hq_g 36 4 34 true _ (fun hb=>hol_load ty_3 rfl (nb rfl) (nb rfl) rq) rfl rfl rfl rfl (pre1 rfl) rfl rfl rfl ?_
   refine stg 34 (fun hb=>hop_eql rfl rfl) rfl rfl rfl rfl rfl ?_
   refine hq_p 38 (hstep_and _ _ rfl rfl rfl) rfl rfl rfl ?_
   refine sm ?_
   refine stg 39 (fun hb=>hop_fa fd_29_2 rfl) rfl rfl rfl rfl rfl ?_
   refine hq_g 41 9 39 true _ (fun hb=>hol_load ty_3 rfl (nb rfl) (nb rfl) rq) rfl rfl rfl rfl (pre1 rfl) rfl rfl rfl ?_
   refine stg 39 (fun hb=>hop_eql rfl rfl) rfl rfl rfl rfl rfl ?_
   refine hq_p 43 (hstep_and _ _ rfl rfl rfl) rfl rfl rfl ?_
   refine sm ?_
   refine stg 44 (fun hb=>hop_fa fd_29_3 rfl) rfl rfl rfl rfl rfl ?_
   refine hq_g 46 14 44 true _ (fun hb=>hol_load ty_9 rfl (nb rfl) (nb rfl) rq) rfl rfl rfl rfl (pre1 rfl) rfl rfl rfl ?_
   refine stg 44 (fun hb=>hop_seq_l rfl rfl) rfl rfl rfl rfl rfl ?_
   refine hq_p 48 (hstep_and _ _ rfl rfl rfl) rfl rfl rfl ?_
   refine sa ?_
   refine nu ?_
   refine h8 _<|hw_ret<|hq_block_ret<|hq_then_ret ?_
   refine hq_ret1 rfl (rval_tmp rfl) [] rfl pre0 ?_
   rw [if_neg hc0,if_pos (.inl hc1)];exact fz_bool (by simp only [beq_d,int_lt1])
  have hr2:=hc2;(try simp only [hcs,Int.reduceToNat] at hc2)
  exfalso;exact absurd hr2 (by rw [hc1];decide)
 have hr1:=hc1;(try simp only [hcs,Int.reduceToNat] at hc1)
 refine hw_region ?_
 refine s0 hqi ?_
 refine sa<|snl h6 ?_
 refine wc (fun hc2=>?_) (fun hc2=>?_)
 ·have hr2:=hc2;(try simp only [hcs,Int.reduceToNat] at hc2)
  refine srg fun N h9=>?_
  refine sf fd_29_4 ?_
  refine sl ty_25 ?_
  refine s0 (hnl el_25) ?_
  refine s0 (hop_gtr rfl rfl) ?_
  refine sm ?_
  refine stg 34 (fun hb=>hop_fa fd_29_1 rfl) rfl rfl rfl rfl rfl ?_
  refine hq_g 36 4 34 true _ (fun hb=>hol_load ty_3 rfl (nb rfl) (nb rfl) rq) rfl rfl rfl rfl (pre1 rfl) rfl rfl rfl ?_
  refine stg 34 (fun hb=>hop_eql rfl rfl) rfl rfl rfl rfl rfl ?_
  refine hq_p 38 (hstep_and _ _ rfl rfl rfl) rfl rfl rfl ?_
  refine sm ?_
  refine stg 39 (fun hb=>hop_fa fd_29_2 rfl) rfl rfl rfl rfl rfl ?_
  refine hq_g 41 9 39 true _ (fun hb=>hol_load ty_3 rfl (nb rfl) (nb rfl) rq) rfl rfl rfl rfl (pre1 rfl) rfl rfl rfl ?_
  refine stg 39 (fun hb=>hop_eql rfl rfl) rfl rfl rfl rfl rfl ?_
  refine hq_p 43 (hstep_and _ _ rfl rfl rfl) rfl rfl rfl ?_
  refine sm ?_
  refine stg 44 (fun hb=>hop_fa fd_29_3 rfl) rfl rfl rfl rfl rfl ?_
  refine hq_g 46 14 44 true _ (fun hb=>hol_load ty_9 rfl (nb rfl) (nb rfl) rq) rfl rfl rfl rfl (pre1 rfl) rfl rfl rfl ?_
  refine stg 44 (fun hb=>hop_seq_l rfl rfl) rfl rfl rfl rfl rfl ?_
  refine hq_p 48 (hstep_and _ _ rfl rfl rfl) rfl rfl rfl ?_
  refine sa ?_
  refine nu ?_
  refine h9 _<|hw_ret<|hq_block_ret<|hq_then_ret ?_
  refine hq_ret1 rfl (rval_tmp rfl) [] rfl pre0 ?_
  rw [if_neg hc0,if_pos (.inr hc2)];exact fz_bool (by simp only [beq_d,int_lt1])
 have hr2:=hc2;(try simp only [hcs,Int.reduceToNat] at hc2)
 refine srg fun N h10=>?_
 refine s0 hqi ?_
 refine sa<|snl h10 ?_
 refine wc (fun hc3=>?_) (fun hc3=>?_)
 ·have hr3:=hc3;(try simp only [hcs,Int.reduceToNat] at hc3)
  refine srg fun N h11=>?_
  refine sf fd_29_2 ?_
  refine sl ty_3 ?_
  refine s0 hqi ?_
  refine sm ?_
  refine stg 54 (fun hb=>hop_fa fd_29_2 rfl) rfl rfl rfl rfl rfl ?_
  refine hq_g 56 3 54 false _ (fun hb=>hol_load ty_3 rfl (nb rfl) (nb rfl) rq) rfl rfl rfl rfl (pre1 rfl) rfl rfl rfl ?_
  refine stg 54 (fun hb=>hop_fa fd_29_1 rfl) rfl rfl rfl rfl rfl ?_
  refine hq_g 58 3 54 false _ (fun hb=>hol_load ty_3 rfl (nb rfl) (nb rfl) rq) rfl rfl rfl rfl (pre1 rfl) rfl rfl rfl ?_
  refine stg 54 (fun hb=>hop_max rfl rfl) rfl rfl rfl rfl rfl ?_
  refine stg 54 (fun hb=>hop_geq rfl rfl) rfl rfl rfl rfl rfl ?_
  refine gm 54 ?_
  refine hq_g3 62 10 61 54 false true _ _ (fun hb hb2=>hop_fa fd_29_2 rfl) rfl rfl rfl rfl rfl pre0 rfl rfl rfl ?_
  refine hq_g3 63 10 61 54 false true _ _ (fun hb hb2=>hol_load ty_3 rfl (nb rfl) (nb rfl) rq) rfl rfl rfl rfl rfl (pre1 rfl) rfl rfl rfl ?_
  refine hq_g3 64 10 61 54 false true _ _ (fun hb hb2=>hop_leq rfl rfl) rfl rfl rfl rfl rfl pre0 rfl rfl rfl ?_
  refine hq_pg 65 (hstep_andg (gi:=3) (j:=54) _ _ rfl rfl rfl rfl) rfl rfl rfl rfl ?_
  refine hq_p 66 (hstep_or _ _ rfl rfl rfl) rfl rfl rfl ?_
  refine sa ?_
  refine nu ?_
  refine h11 _<|srg fun N h12=>?_
  refine sf fd_29_4 ?_
  refine sl ty_25 ?_
  refine s0 (hnl el_25) ?_
  refine s0 hqi ?_
  refine sm ?_
  refine stg 71 (fun hb=>hop_fa fd_29_1 rfl) rfl rfl rfl rfl rfl ?_
  refine hq_g 73 4 71 true _ (fun hb=>hol_load ty_3 rfl (nb rfl) (nb rfl) rq) rfl rfl rfl rfl (pre1 rfl) rfl rfl rfl ?_
  refine stg 71 (fun hb=>hop_geq rfl rfl) rfl rfl rfl rfl rfl ?_
  refine hq_p 75 (hstep_and _ _ rfl rfl rfl) rfl rfl rfl ?_
  refine sm ?_
  refine stg 76 (fun hb=>hop_fa fd_29_1 rfl) rfl rfl rfl rfl rfl ?_
  refine hq_g 78 9 76 true _ (fun hb=>hol_load ty_3 rfl (nb rfl) (nb rfl) rq) rfl rfl rfl rfl (pre1 rfl) rfl rfl rfl ?_
  refine stg 76 (fun hb=>hop_leq rfl rfl) rfl rfl rfl rfl rfl ?_
  refine hq_p 80 (hstep_and _ _ rfl rfl rfl) rfl rfl rfl ?_
  refine sm ?_
  refine gm 81 ?_
  refine hq_p 83 (hstep_and _ _ rfl rfl rfl) rfl rfl rfl ?_
  refine sm ?_
  refine stg 84 (fun hb=>hop_fa fd_29_3 rfl) rfl rfl rfl rfl rfl ?_
  refine hq_g 86 17 84 true _ (fun hb=>hol_load ty_9 rfl (nb rfl) (nb rfl) rq) rfl rfl rfl rfl (pre1 rfl) rfl rfl rfl ?_
  refine stg 84 (fun hb=>hop_seq_l rfl rfl) rfl rfl rfl rfl rfl ?_
  refine hq_p 88 (hstep_and _ _ rfl rfl rfl) rfl rfl rfl ?_
  refine sa ?_
  refine nu ?_
  refine h12 _<|hw_ret<|hq_block_ret<|hq_then_ret ?_
  refine hq_ret1 rfl (rval_tmp rfl) [] rfl pre0 ?_
  rw [if_neg hc0,if_neg (show ¬ (x.kind=2∨x.kind=3) by omega),if_pos hc3];exact fz_bool (by simp only [beq_d,int_1])
 have hr3:=hc3;(try simp only [hcs,Int.reduceToNat] at hc3)
 refine hw_skip<|hq_block<|h2 _<|srg fun N h13=>sa<|snl h13<|hw_ret ?_
 refine hq_ret1 rfl (rval_tmp rfl) [] rfl pre0 ?_
 rw [if_neg hc0,if_neg (show ¬ (x.kind=2∨x.kind=3) by omega),if_neg hc3];exact .imm _
theorem right_step {n i:Nat} {e:List Pt} {op:List Int} (hi:i < e.length):rightL n i (e.drop i) op=((aloneV (e.getD i default)&&(decide ((e.getD i default).kids.length≤op.length)&&decide (op.drop (op.length - (e.getD i default).kids.length)=(e.getD i default).kids)))&&rightL n (i+1) (e.drop (i+1)) (op.take (op.length - (e.getD i default).kids.length)++[(i:Int)])):=by
 have h:e.drop i=e.getD i default::e.drop (i+1):=by
  rw [List.getD_eq_getElem?_getD,List.getElem?_eq_getElem hi,List.drop_eq_getElem_cons hi];rfl
 rw [h];rfl
theorem os_eq {id g lo lo' n n':Nat} (h1:lo=lo') (h2:n=n'):HV.os id g lo n=HV.os id g lo' n':=by subst h1;subst h2;rfl
instance frz_ptH (x:Pt):Frz (ptH x):=⟨.agg _ _ _ fun j hj=>pt_fz x j⟩
theorem cut_all6 {op:List Int} {k:Nat} (h:k≤op.length):(op.drop (op.length - k)).take k=op.drop (op.length - k):=List.take_of_length_le (by rw [List.length_drop];omega)
theorem right_no {x:Pt} {op:List Int} (h:(!aloneV x||decide ((op.length:Int) - x.kids.length < 0)||!decide ((op.drop (op.length - x.kids.length)).take x.kids.length=x.kids))=true):(aloneV x&&(decide (x.kids.length≤op.length)&&decide (op.drop (op.length - x.kids.length)=x.kids)))=false:=by
 by_cases hk:x.kids.length≤op.length
 ·rw [cut_all6 hk,decide_eq_false (show ¬ ((op.length:Int) - x.kids.length < 0) by omega)] at h
  rw [decide_eq_true hk]
  cases ha:aloneV x <;> rw [ha] at h <;> simp at h ⊢
  exact h
 ·rw [decide_eq_false hk];simp
theorem right_yes {x:Pt} {op:List Int} (h:(!aloneV x||decide ((op.length:Int) - x.kids.length < 0)||!decide ((op.drop (op.length - x.kids.length)).take x.kids.length=x.kids))=false):(aloneV x&&(decide (x.kids.length≤op.length)&&decide (op.drop (op.length - x.kids.length)=x.kids)))=true∧x.kids.length≤op.length:=by
 simp only [Bool.or_eq_false_iff,Bool.not_eq_false',decide_eq_false_iff_not] at h
 have hk:x.kids.length≤op.length:=by omega
 have h2:=h.2
 rw [cut_all6 hk] at h2
 exact ⟨by rw [h.1.1,decide_eq_true hk,h2];rfl,hk⟩
theorem osub_cut {op:List Int} {N k g ty:Nat} {r:Int} {F:Nat→Nat→HV} (hN:N=k) (hk:k≤op.length) (hF:∀ j,F 0 j=intV r):OSub ⟨g,N+1,1,ty,0,cat N (kidsF op) F⟩ ⟨g,(op.take k++[r]).length,1,ty,0,kidsF (op.take k++[r])⟩:=by
 subst hN
 have hl:(op.take N).length=N:=by rw [List.length_take];omega
 exact osub_snoc (enc:=fun x _=>intV x) (d:=0) (out:=op.take N) hl.symm (fun i j hi hj=>by
  have:(op.take N).getD i 0=op.getD i 0:=by rw [List.getD_eq_getElem?_getD,List.getD_eq_getElem?_getD,List.getElem?_take,if_pos (by omega)]
  show Sb (intV (op.getD i 0)) (intV ((op.take N).getD i 0))
  rw [this];exact .refl _) (fun j hj=>by rw [hF];exact .refl _)
theorem right_g {a:Bool} {ol kl:Nat} (h:(!a||decide ((ol:Int) - kl < 0))=false):ol - kl+kl≤ol:=by simp at h;omega
theorem right_h (e:List Pt) (he:PtB e):HPure Tryz.prog 32 [ptsV e] (boolV (rightV e)):=by
 have hel:=he.1
 refine hpure_of Tryz.func32 rfl kr _ _ _ rfl 51 rfl rfl (fun w F=>?_)
 refine srg fun N h1=>sa<|snl h1<|srg fun N h2=>sa<|snl h2<|hw_seq fun Nh3 h3=>srg fun N h4=>sm ?_
 refine s0 (hnl el_24) ?_
 refine sm<|snl h4<|hw_block ?_
 refine hw_own 3 8001 1 3 ((kidsF [])) rfl (by decide) rfl (c':=1) rfl ?_
 refine hw_loopc (α:=Nat×List Int×Nat) (fun x c=>⟨51,[(0,.v (ptsV e)),(3,.v (.os 8001 x.2.2 0 x.2.1.length)),(7,.v (ptsV e)),(8,.v (intV e.length)),(9,.v (intV x.1))],[(8001,⟨x.2.2,x.2.1.length,1,3,0,kidsF x.2.1⟩)],c⟩) (fun x=>x.1≤e.length∧x.2.1.length≤x.1∧rightL e.length x.1 (e.drop x.1) x.2.1=rightV e) (fun x=>e.length - x.1) ((0,[],0)) (by exact ⟨Nat.zero_le _,Nat.zero_le _,rfl⟩) (hsub_of rfl (Nat.le_refl _) tsa hsa) (fun x c hx NhL5 hL5=>?_)
 revert hx hL5;obtain ⟨i,op,g⟩:=x;intro hx hL5;dsimp only at hx hL5 ⊢
 obtain ⟨hi,hop,hR⟩:=hx
 refine srg fun N h6=>?_
 refine s0 hli ?_
 refine snl h6<|hw_seq fun Nh7 h7=>?_
 refine wc (fun hc0=>?_) (fun hc0=>?_)
 ·have hr0:=hc0;(try simp only [hcs,Int.reduceToNat] at hc0)
  have hil:i < e.length:=om;have hkb:=he.2 i hil;have hst:=right_step (n:=e.length) (op:=op) hil
  refine hw_skip<|h7 _<|hw_seq fun Nh8 h8=>hw_block<|srg fun N h9=>sm ?_
  refine s0 (hix el_24) ?_
  refine s0 (HOp.val (v':=ptH (e.getD i default)) (hop_load_fp ty_29 rfl (nb rfl) (fun h=>(by cases h))) (rfl)) ?_
  refine hm_1 5 (hop_alloc (id:=5) (sz:=5) zc_29 rfl rfl (nb rfl) (nb rfl)) rfl rfl pre0 rfl rfl (c':=c+1) rfl ?_
  refine sa ?_
  refine sw (c+2) ty_29 ?_
  refine snl h9<|srg fun N h10=>sm ?_
  refine s0 (hop_len_os (T:=25) rfl (elOf_spec el_25).1 rfl) ?_
  refine sf fd_29_4 ?_
  refine st1 (HOp.val (v':=kidsV (e.getD i default).kids) (hol_load ty_25 rfl (nb rfl) (nb rfl) (fun h=>(by rfl))) (rfl)) rfl rfl rfl ?_
  refine s0 (hnl el_25) ?_
  refine s0 hsi ?_
  refine sa<|snl h10<|hw_seq fun Nh11 h11=>hw_seq fun Nh12 h12=>hd_start ?_
  refine hd_q 20 (HOp.val (v':=ptH (e.getD i default)) (hol_load ty_29 rfl (nb rfl) (nb rfl) (fun h=>(by cases h))) (rfl)) rfl rfl (pre1 rfl) rfl rfl (k':=1) rfl ?_
  refine d0 2 (hop_call0 (xs:=[_]) (alone_h (e.getD i default) om om) ⟨rfl,trivial⟩ ⟨fe,trivial⟩) ?_
  refine d0 3 (hop_not rfl) ?_
  refine dm 4 ?_
  refine hd_g 24 3 23 false _ (fun hb=>hop_move rfl) rfl rfl rfl rfl pre0 rfl rfl rfl (k':=5) rfl ?_
  refine hd_g 25 3 23 false _ (fun hb=>hop_lss rfl rfl) rfl rfl rfl rfl pre0 rfl rfl rfl (k':=6) rfl ?_
  refine hd_p 26 (hstep_or _ _ rfl rfl rfl) rfl rfl rfl (k':=7) rfl ?_
  refine dm 8 ?_
  refine hd_g 28 7 27 false _ (fun hb=>hop_move rfl) rfl rfl rfl rfl pre0 rfl rfl rfl (k':=9) rfl ?_
  refine hd_g 29 7 27 false _ (fun hb=>hop_move rfl) rfl rfl rfl rfl pre0 rfl rfl rfl (k':=10) rfl ?_
  refine hd_g 30 7 27 false _ (fun hb=>HOp.val (v':=.os 8001 g (op.length - (e.getD i default).kids.length) (e.getD i default).kids.length) (hol_cut_os el_25 rfl (.inr ⟨_,_,rfl,rfl⟩) (.inl ⟨rfl,rfl⟩) (by (simp at hb;first | omega | (dsimp only;omega) | (simp <;> omega))) (by (simp at hb;first | omega | (dsimp only;omega) | (simp <;> omega))) (by (simp at hb;first | omega | (dsimp only;omega) | (simp <;> omega)))) (os_eq (by simp at hb;omega) (by simp at hb;omega))) rfl rfl rfl rfl (pre1 rfl) rfl rfl rfl (k':=11) rfl ?_
  refine hd_g 31 7 27 false _ (fun hb=>hop_fa fd_29_4 rfl) rfl rfl rfl rfl pre0 rfl rfl rfl (k':=12) rfl ?_
  refine hd_g 32 7 27 false _ (fun hb=>HOp.val (v':=kidsV (e.getD i default).kids) (hol_load ty_25 rfl (nb rfl) (nb rfl) (fun h=>(by rfl))) (rfl)) rfl rfl rfl rfl (pre1 rfl) rfl rfl rfl (k':=13) rfl ?_
  refine hd_g 33 7 27 false _ (fun hb=>hop_funR (xs:=[_,_]) (pre:=[(8001,_)]) (equal_h g (op.length - (e.getD i default).kids.length) (e.getD i default).kids.length op (e.getD i default).kids om om (right_g hb)) ⟨rfl,⟨rfl,trivial⟩⟩) rfl rfl rfl rfl (preC rfl pre0) rfl rfl rfl (k':=14) rfl ?_
  refine hd_g 34 7 27 false _ (fun hb=>hop_not rfl) rfl rfl rfl rfl pre0 rfl rfl rfl (k':=15) rfl ?_
  refine hd_p 35 (hstep_or _ _ rfl rfl rfl) rfl rfl rfl (k':=16) rfl ?_
  refine hd_nil kr kr (c':=c+18) rfl ?_
  refine h12 _ ?_
  refine wc (fun hc1=>?_) (fun hc1=>?_)
  ·have hr1:=hc1;(try simp only [hcs,Int.reduceToNat] at hc1)
   have hf:=right_no hr1;rw [hf,Bool.false_and] at hst
   refine srg fun N h13=>sa<|snl h13<|hw_ret<|hq_then_ret<|hq_block_ret<|hq_then_ret<|hq_then_ret<|hq_block_ret<|hq_then_ret ?_
   refine hq_ret1 rfl (rval_tmp rfl) [] rfl pre0 ?_
   rw [←hR,hst];exact .imm _
  have hr1:=hc1;(try simp only [hcs,Int.reduceToNat] at hc1)
  obtain ⟨hf,hkl⟩:=right_yes hr1;rw [hf,Bool.true_and] at hst
  refine hw_skip<|h11 _<|hw_region<|sm<|sm ?_
  refine st1 (hol_cut_os el_25 rfl (.inl ⟨rfl,rfl⟩) (.inr ⟨_,_,rfl,rfl⟩) om om om) rfl rfl rfl ?_
  refine sm ?_
  refine hm_1 40 (hop_buildSlice (id:=40) (hs:=[_]) ei_25 (nb rfl) rfl (nb rfl) ⟨rfl,rfl,rfl,rfl,trivial⟩) rfl rfl pre0 rfl rfl (c':=c+19) rfl ?_
  refine hm_1 41 (hol_append ei_25 (nb rfl) rfl om (nb rfl) (srl_os0 rfl (nb rfl)) om rfl) rfl rfl (preC rfl (pre1 rfl)) rfl rfl (c':=c+20) rfl ?_
  refine sa<|hseq_nil<|hq_block<|h8 _<|hw_region ?_
  refine s0 hai ?_
  refine sm<|hseq_nil ?_
  exact hL5 ((i+1,op.take (op.length - (e.getD i default).kids.length)++[(i:Int)],c+19)) _ _ (by (try dsimp only);exact ⟨by omega,by rw [List.length_append,List.length_take];show _+1≤_;omega,by rw [←hst];exact hR⟩) (by (try dsimp only);omega) (hsub_of rfl (Nat.le_refl _) (tsr rfl (TmSub.cons rfl (by dsimp only;exact sb_os (by rw [List.length_append,List.length_take];show _+1=_+1;omega)) tsa)) (HpSub.cons rfl (by dsimp only;exact osub_cut (k:=op.length - (e.getD i default).kids.length) (r:=(i:Int)) om om (fun _=>rfl)) HpSub.nil))
 have hr0:=hc0;(try simp only [hcs,Int.reduceToNat] at hc0)
 refine hw_exit ?_
 refine hq_then_exit<|hq_then_exit<|hq_block_here<|h3 _<|srg fun N h14=>sm ?_
 refine s0 (hop_len_os (T:=25) rfl (elOf_spec el_25).1 rfl) ?_
 refine s0 hqi ?_
 refine sm ?_
 refine gm 46 ?_
 refine stg 46 (fun hb=>hop_len_sl (T:=24) rfl (elOf_spec el_24).1 rfl) rfl rfl rfl rfl rfl ?_
 refine stg 46 (fun hb=>hop_eql rfl rfl) rfl rfl rfl rfl rfl ?_
 refine hq_p 50 (hstep_or _ _ rfl rfl rfl) rfl rfl rfl ?_
 refine sa ?_
 refine nu ?_
 refine h14 _<|hw_ret ?_
 refine hq_ret1 rfl (rval_tmp rfl) [] rfl pre0 ?_
 rw [←hR,List.drop_eq_nil_of_le om];exact fz_bool (by simp only [rightL,beq_d,int_1,int_0])
theorem pt_at {e:List Pt} {j k:Nat} {x:Pt} (hj:j=k) (h:e.getD k default=x):ldv true 5 (ptsF e j) 0=ptH x:=by subst hj;subst h;rfl
theorem getD_mem' {l:List Pt} {i:Nat} (h:i < l.length):l.getD i default∈l:=by
 rw [List.getD_eq_getElem?_getD,List.getElem?_eq_getElem h];exact List.getElem_mem h
theorem ptB_flat {t:T} (h:t.ok=true) (hs:t.size≤100000):PtB (T.flat 0 t):=by
 refine ⟨by rw [T.flat_len];exact hs,fun i hi=>?_⟩
 have:=flat_small t 0 h _ (getD_mem' hi)
 omega
theorem parse_right {s:List UInt8} {r:List Pt×Int×Int} (h:ParseIs s r):PtB r.1∧(r.2.2=0→rightV r.1=true):=by
  have hB0:PtB ([]:List Pt):=⟨Nat.zero_le _,fun i hi=>absurd hi (Nat.not_lt_zero _)⟩
  have hlen:=lexO_len s
  cases h with
  | err e hv=>exact ⟨hB0,fun h=>absurd h (lexV_err hv)⟩
  | none hv=>exact ⟨hB0,fun _=>rfl⟩
  | odd _ _ _ _ _ _=>exact ⟨hB0,fun h=>absurd (show (2:Int)=0 from h) (by decide)⟩
  | end_ _ _ _ _=>exact ⟨hB0,fun h=>absurd (show (5:Int)=0 from h) (by decide)⟩
  | ok l t hv hs =>
    rw [hv] at hlen
    have hll:l.length≤200:=hlen
    have hk:=seg_ok (lexV_W hv) hs
    have hz:=seg_size hs
    exact ⟨ptB_flat hk (by omega),fun _=>right_of_ok hk⟩
end Go.Proofs.YtldjnmljnlhaaaaGreatDoor
namespace Go.Proofs.YtldjnmljnlhaaaaGreatDoor
set_option linter.unusedSimpArgs false
set_option linter.unusedVariables false
def T.kidsT:T→List T
 | .name _=>[]
 | .times _ _ t=>[t]
 | .many _ ts=>ts
theorem top_kids (b:Nat) (t:T):(t.top b).kids=rootsL b t.kidsT:=by
 cases t <;> simp [T.top,T.kidsT,rootsL]
theorem kids_ok {t:T} (h:t.ok=true):T.okL t.kidsT=true:=by
 cases t with
 | name s=>rfl
 | times lo hi t=>simp only [T.ok,Bool.and_eq_true] at h;simp [T.kidsT,T.okL,h.2]
 | many k ts=>simp only [T.ok,Bool.and_eq_true] at h;exact h.2
theorem kids_at' {e:List Pt} {b i:Nat} {t:T} (h:AtP e b (T.flat b t)) (hi:i < t.kidsT.length):AtP e (b+T.sizeL (t.kidsT.take i)) (T.flat (b+T.sizeL (t.kidsT.take i)) (t.kidsT.getD i default)):=by
  cases t with
  | name s=>exact absurd hi (Nat.not_lt_zero _)
  | times lo hi' t =>
    obtain rfl:i=0:=by simpa [T.kidsT] using hi
    simp only [T.flat] at h
    have:=atP_left h
    simpa [T.kidsT,T.sizeL] using this
  | many k ts=>exact at_kid h hi
theorem kind_ok {t:T} (h:t.ok=true):t.kind=1∨t.kind=2∨t.kind=3∨t.kind=4:=by
  cases t with
  | name s=>exact .inl rfl
  | times lo hi t=>exact .inr (.inr (.inr rfl))
  | many k ts =>
    simp only [T.ok,Bool.and_eq_true,Bool.or_eq_true,decide_eq_true_eq] at h
    rcases h.1.1 with hk | hk
    · exact .inr (.inl hk)
    · exact .inr (.inr (.inl hk))
def addN (o:List (List UInt8)) (x:Pt):List (List UInt8):=if x.kind=1∧x.name∉o then o++[x.name] else o
def namesV (e:List Pt):List (List UInt8):=e.foldl addN []
theorem names_take {e:List Pt} {i:Nat} (h:i < e.length):namesV (e.take (i+1))=addN (namesV (e.take i)) (e.getD i default):=by
 have:e.take (i+1)=e.take i++[e.getD i default]:=by
  rw [List.take_add_one,List.getD_eq_getElem?_getD,List.getElem?_eq_getElem h];rfl
 unfold namesV
 rw [this,List.foldl_append];rfl
theorem names_len {e:List Pt}:∀ i,(namesV (e.take i)).length≤i
  | 0=>by simp [namesV]
  | i + 1 => by
    have ih:=names_len (e:=e) i
    rcases Nat.lt_or_ge i e.length with h | h
    · rw [names_take h]
      unfold addN
      split
      · rw [List.length_append];show _+1≤_;omega
      · omega
    · rw [List.take_of_length_le (by omega)]
      rw [List.take_of_length_le (by omega)] at ih
      omega
end Go.Proofs.YtldjnmljnlhaaaaGreatDoor
namespace Go.Proofs.YtldjnmljnlhaaaaGreatDoor
set_option linter.unusedSimpArgs false
set_option linter.unusedVariables false
set_option maxRecDepth 100000
set_option maxHeartbeats 1000000
open Go.RowKit
def wMin (n:Nat):Int:=if n < 257 then n else 257
theorem wL_take:∀ (ts:List T) (i:Nat),i < ts.length→T.wL (ts.take (i+1))=T.wL (ts.take i)+(ts.getD i default).w
  | [],i,h=>absurd h (Nat.not_lt_zero _)
  | t::ts,0,_=>by simp [T.wL]
  | t :: ts, i + 1, h => by
    have:=wL_take ts i (by simpa using h)
    simp only [List.take_succ_cons,T.wL]
    rw [this]
    simp
    omega
theorem wMin_add (a b:Nat):(if 257 < wMin a+wMin b then (257:Int) else wMin a+wMin b)=wMin (a+b):=by
 unfold wMin;split <;> split <;> split <;> split <;> omega
theorem wMin_mul (a k:Nat) (hk:k≤1000):(if 257 < wMin a * (k:Int) then (257:Int) else wMin a * (k:Int))=wMin (a * k)∧0≤wMin a * (k:Int)∧wMin a * (k:Int)≤257000:=by
 have h0:0≤wMin a∧wMin a≤257:=by unfold wMin;split <;> omega
 have h1:0≤wMin a * (k:Int):=Int.mul_nonneg h0.1 (by omega)
 have h2:wMin a * (k:Int)≤257 * (k:Int):=Int.mul_le_mul_of_nonneg_right h0.2 (by omega)
 refine ⟨?_,h1,by omega⟩
 by_cases ha:a < 257
 ·have e:wMin a=(a:Int):=by unfold wMin;rw [if_pos ha]
  rw [e]
  have e2:((a:Int) * (k:Int))=((a * k:Nat):Int):=by rw [Int.natCast_mul]
  rw [e2]
  unfold wMin
  split <;> split <;> omega
 ·have e:wMin a=257:=by unfold wMin;rw [if_neg ha]
  rw [e]
  rcases Nat.eq_zero_or_pos k with rfl | hk0
  ·simp [wMin]
  ·have h3:257≤a * k:=Nat.le_trans (by omega:257≤a) (Nat.le_mul_of_pos_right a hk0)
   have e3:wMin (a * k)=257:=by unfold wMin;rw [if_neg (by omega)]
   rw [e3]
   split <;> omega
theorem wMin_le (a:Nat):0≤wMin a∧wMin a≤257:=by unfold wMin;split <;> omega
theorem w_name {t:T} (h:t.kind=1) (hok:t.ok=true):t.w=1:=by
 cases t with
 | name s=>rfl
 | times lo hi t=>simp [T.kind] at h
 | many k ts=>simp [T.kind] at h;subst h;simp [T.ok] at hok
theorem w_times {t:T} (h:t.kind=4) (hok:t.ok=true):∃ lo hi u,t=.times lo hi u:=by
 cases t with
 | name s=>simp [T.kind] at h
 | times lo hi t=>exact ⟨lo,hi,t,rfl⟩
 | many k ts=>simp [T.kind] at h;subst h;simp [T.ok] at hok
theorem w_many {t:T} (h1:t.kind≠1) (h:t.kind≠4):t.w=T.wL t.kidsT:=by
 cases t with
 | name s=>simp [T.kind] at h1
 | times lo hi t=>simp [T.kind] at h
 | many k ts=>simp [T.w,T.kidsT]
theorem many_int (lo hi:Int) (h1:0≤lo):(if hi < 0 then (if lo < 1 then 1 else lo) else hi)=((manyOf lo hi:Nat):Int):=by
 unfold manyOf;split <;> (try split) <;> omega
theorem w_count {t:T} (b:Nat) (h:t.kind=4) (hok:t.ok=true):t.w=T.wL t.kidsT * manyOf (t.top b).low (t.top b).high∧0≤(t.top b).low∧(t.top b).low≤20∧(t.top b).high≤20∧manyOf (t.top b).low (t.top b).high≤20:=by
 obtain ⟨lo,hi,u,rfl⟩:=w_times h hok
 simp only [T.ok,Bool.and_eq_true,Bool.or_eq_true,decide_eq_true_eq] at hok
 refine ⟨by simp [T.w,T.kidsT,T.wL,T.top],hok.1.1.1,hok.1.1.2,?_,?_⟩
 ·show hi≤20;omega
 ·show manyOf lo hi≤20
  unfold manyOf
  split <;> (try split) <;> omega
@[reducible] def PlC (e:List Pt) (b:Nat) (t:T):Prop:=HPure Tryz.prog 36 [ptsV e,intV ((b+t.size - 1:Nat):Int)] (intV (wMin t.w))
theorem places_one (e:List Pt) (he:e.length≤100000) (b:Nat) (t:T) (hok:t.ok=true) (hat:AtP e b (T.flat b t)) (hkl:t.kidsT.length≤100000)
  (ih:∀ i,i < t.kidsT.length→PlC e (b+T.sizeL (t.kidsT.take i)) (t.kidsT.getD i default)):PlC e b t:=by
 have htop:=at_top hat
 have hps:=t.size_pos
 have hkid:=top_kids b t
 have hrl:=rootsL_len t.kidsT b
 generalize htp:t.top b=p at htop hkid
 have hpk:p.kind=t.kind:=by rw [←htp];exact top_kind b t
 refine hpure_of Tryz.func36 rfl kr _ _ _ rfl 46 rfl rfl (fun w F=>?_)
 refine srg fun N h1=>sa<|snl h1<|srg fun N h2=>sm<|sm ?_
 refine s0 (hix el_24) ?_
 refine s0 (HOp.val (v':=ptH p) (hop_load_fp ty_29 rfl (nb rfl) (fun h=>(by cases h))) (pt_at (by omega) htop.1)) ?_
 refine hm_1 5 (hop_alloc (id:=5) (sz:=5) zc_29 rfl rfl (nb rfl) (nb rfl)) rfl rfl pre0 rfl rfl (c':=1) rfl ?_
 refine sw (2) ty_29 ?_
 refine snl h2<|hw_seq fun Nh3 h3=>srg fun N h4=>?_
 refine sf fd_29_0 ?_
 refine sl ty_3 ?_
 refine s0 hqi ?_
 refine snl h4 ?_
 refine wc (fun hc0=>?_) (fun hc0=>?_)
 ·have hr0:=hc0;(try simp only [hcs,Int.reduceToNat] at hc0)
  refine srg fun N h5=>sa<|snl h5<|hw_ret<|hq_then_ret ?_
  refine hq_ret1 rfl (rval_tmp rfl) [] rfl pre0 ?_
  rw [w_name (by rw [←hpk];exact hc0) hok];exact .imm _
 have hr0:=hc0;(try simp only [hcs,Int.reduceToNat] at hc0)
 refine hw_skip<|h3 _<|srg fun N h6=>sa<|snl h6<|hw_seq fun Nh7 h7=>srg fun N h8=>?_
 refine sf fd_29_4 ?_
 refine sl ty_25 ?_
 refine s0 (hnl el_25) ?_
 refine sm<|snl h8<|hw_block ?_
 refine hw_loopc (α:=Nat) (fun x c=>⟨46,[(0,.v (ptsV e)),(5,.v (.pt 5 0 0 0)),(6,.v (intV (wMin (T.wL (t.kidsT.take x))))),(18,.v (kidsV p.kids)),(19,.v (intV p.kids.length)),(20,.v (intV x))],[(5,⟨0,1,5,29,0,fun _=>ptF p⟩)],c⟩) (fun x=>x≤t.kidsT.length) (fun x=>t.kidsT.length - x) (0) om (hsub_of rfl (Nat.le_refl _) tsa hsa) (fun i c hx NhL9 hL9=>?_)
 (try dsimp only at hx hL9 ⊢)
 have hm1:=wMin_le (T.wL (t.kidsT.take i))
 refine srg fun N h10=>?_
 refine s0 hli ?_
 refine snl h10<|hw_seq fun Nh11 h11=>?_
 refine wc (fun hc1=>?_) (fun hc1=>?_)
 ·have hr1:=hc1;(try simp only [hcs,Int.reduceToNat] at hc1)
  have him:i < t.kidsT.length:=(by have h:=hr1;simp [hkid,hrl] at h;omega);have hka:=kids_at' hat him;have hkt:=at_top hka;have hks:=(t.kidsT.getD i default).size_pos;have hroot:=roots_get t.kidsT b i him;have hm2:=wMin_le (t.kidsT.getD i default).w;have hwt:=wL_take t.kidsT i him;have hma:=wMin_add (T.wL (t.kidsT.take i)) (t.kidsT.getD i default).w
  refine hw_skip<|h11 _<|hw_seq fun Nh12 h12=>hw_block<|srg fun N h13=>?_
  refine s0 (hix el_25) ?_
  refine s0 (HOp.val (v':=intV ((b+T.sizeL (t.kidsT.take i)+(t.kidsT.getD i default).size - 1:Nat):Int)) (hop_load_fp ty_3 rfl (nb rfl) (fun h=>(by rfl))) (by exact kids_at (i:=i) (by omega) (by rw [hkid,hroot];unfold T.root;omega))) ?_
  refine sa<|snl h13<|hw_region<|sm<|sm<|sm ?_
  refine s0 (hop_call0 (xs:=[_,_]) (ih i him) ⟨rfl,⟨rfl,trivial⟩⟩ ⟨fe,⟨fe,trivial⟩⟩) ?_
  refine s0 hai ?_
  refine s0 (HOp.val (v':=intV (wMin (T.wL (t.kidsT.take (i+1))))) (hop_min rfl rfl) (by rw [hwt,←hma])) ?_
  refine sa<|hseq_nil<|hq_block<|h12 _<|hw_region ?_
  refine s0 hai ?_
  refine sm<|hseq_nil ?_
  exact hL9 (i+1) _ _ (by (try dsimp only);omega) (by (try dsimp only);omega) (hsub_of rfl (Nat.le_refl _) tsa hsa)
 have hr1:=hc1;(try simp only [hcs,Int.reduceToNat] at hc1)
 have hit:i=t.kidsT.length:=(by have h:=hr1;simp [hkid,hrl] at h;omega);rw [hit,List.take_length]
 refine hw_exit ?_
 refine hq_then_exit<|hq_then_exit<|hq_block_here<|h7 _<|hw_seq fun Nh14 h14=>srg fun N h15=>?_
 refine sf fd_29_0 ?_
 refine sl ty_3 ?_
 refine s0 hqi ?_
 refine snl h15 ?_
 refine wc (fun hc2=>?_) (fun hc2=>?_)
 ·have hr2:=hc2;(try simp only [hcs,Int.reduceToNat] at hc2)
  have hct:=w_count b (by rw [←hpk];exact hc2) hok;rw [htp] at hct;have hmi:=many_int p.low p.high hct.2.1;have hmm:=wMin_mul (T.wL t.kidsT) (manyOf p.low p.high) om
  refine srg fun N h16=>?_
  refine sf fd_29_2 ?_
  refine sl ty_3 ?_
  refine sa<|snl h16 ?_
  refine hw_joinc (α:=Nat) (fun x c=>⟨46,[(5,.v (.pt 5 0 0 0)),(6,.v (intV (wMin (T.wL t.kidsT)))),(9,.v (intV ((manyOf p.low p.high:Nat):Int)))],[(5,⟨0,1,5,29,0,fun _=>ptF p⟩)],c⟩) (fun x=>True) (fun NhJ17 hJ17=>?_) (fun k c hx=>?_)
  ·skip
   refine srg fun N h18=>sm ?_
   refine s0 hli ?_
   refine snl h18 ?_
   refine wc (fun hc3=>?_) (fun hc3=>?_)
   ·have hr3:=hc3;(try simp only [hcs,Int.reduceToNat] at hc3)
    refine hw_region ?_
    refine sf fd_29_1 ?_
    refine sl ty_3 ?_
    refine s0 (HOp.val (v':=intV ((manyOf p.low p.high:Nat):Int)) (hop_max rfl rfl) (by rw [←hmi,if_pos hc3])) ?_
    refine sa<|hseq_nil ?_
    exact hJ17 (0) _ _ (by (try dsimp only);first | done | trivial) (hsub_of rfl (Nat.le_refl _) tsa hsa)
   have hr3:=hc3;(try simp only [hcs,Int.reduceToNat] at hc3)
   refine hw_skip ?_
   exact hJ17 (0) _ _ (by (try dsimp only);first | done | trivial) (hsub_of rfl (Nat.le_refl _) (tsr rfl (tsr rfl (TmSub.cons rfl (by rw [←hmi,if_neg hc3];exact .refl _) TmSub.nil))) hsa)
  ·skip
   (try dsimp only at hx ⊢)
   refine hw_region<|sm<|sm ?_
   refine s0 (hop_muli rfl rfl rfl om om) ?_
   refine s0 (HOp.val (v':=intV (wMin t.w)) (hop_min rfl rfl) (by rw [hct.1,←hmm.1])) ?_
   refine sa<|snl h14<|srg fun N h19=>sm<|sa<|snl h19<|hw_ret ?_
   refine hq_ret1 rfl (rval_tmp rfl) [] rfl pre0 ?_
   exact .imm _
 have hr2:=hc2;(try simp only [hcs,Int.reduceToNat] at hc2)
 have hwm:=w_many (by rw [←hpk];exact hc0) (by rw [←hpk];exact hc2);rw [←hwm]
 refine hw_skip<|h14 _<|srg fun N h20=>sm<|sa<|snl h20<|hw_ret ?_
 refine hq_ret1 rfl (rval_tmp rfl) [] rfl pre0 ?_
 exact .imm _
theorem sizeL_ge2:∀ ts:List T,ts.length≤T.sizeL ts
 | []=>Nat.zero_le _
 | t::ts=>by have:=sizeL_ge2 ts;have:=t.size_pos;simp only [List.length_cons,T.sizeL];omega
theorem kids_few2 {t:T}:t.kidsT.length≤t.size:=by
 cases t with
 | name s=>exact Nat.zero_le _
 | times lo hi t=>simp [T.kidsT,T.size]
 | many k ts=>have:=sizeL_ge2 ts;simp only [T.kidsT,T.size];omega
mutual
theorem places_h (e:List Pt) (he:e.length≤100000):∀ (t:T) (b:Nat),t.ok=true→AtP e b (T.flat b t)→PlC e b t
  | .name s,b,hok,hat=>places_one e he b (.name s) hok hat (Nat.zero_le _) (fun i hi=>absurd hi (Nat.not_lt_zero _))
  | .times lo hi t, b, hok, hat => by
    have hok':t.ok=true:=by simp only [T.ok,Bool.and_eq_true] at hok;exact hok.2
    refine places_one e he b (.times lo hi t) hok hat (by simp [T.kidsT]) (fun i hi=>?_)
    obtain rfl:i=0:=by simpa [T.kidsT] using hi
    have:=places_h e he t b hok' (by simp only [T.flat] at hat;exact atP_left hat)
    simpa [T.kidsT,T.sizeL] using this
  | .many k ts, b, hok, hat => by
    have hok':T.okL ts=true:=by simp only [T.ok,Bool.and_eq_true] at hok;exact hok.2
    have hkl:(T.many k ts).kidsT.length≤100000:=by
      have:=kids_few2 (t:=.many k ts);have:=(at_top hat).2;omega
    exact places_one e he b (.many k ts) hok hat hkl (fun i hi=>placesL_h e he ts hok' i hi _ (kids_at' hat hi))
theorem placesL_h (e:List Pt) (he:e.length≤100000):∀ ts:List T,T.okL ts=true→∀ i,i < ts.length→∀ b,AtP e b (T.flat b (ts.getD i default))→PlC e b (ts.getD i default)
  | [],_,i,hi=>absurd hi (Nat.not_lt_zero _)
  | t :: ts, hok, i, hi => fun b hat => by
    simp only [T.okL,Bool.and_eq_true] at hok
    cases i with
    | zero=>exact places_h e he t b hok.1 hat
    | succ i=>exact placesL_h e he ts hok.2 i (by simpa using hi) b (by simpa using hat)
end
@[reducible] def pcsF (l:List Pc):Nat→Nat→HV:=fun i=>pcF (l.getD i default)
@[reducible] def pcsV (l:List Pc):HV:=.sl 9 l.length (pcsF l)
@[reducible] def pcsO (g:Nat) (l:List Pc):HObj:=⟨g,l.length,9,74,0,pcsF l⟩
instance (l:List Pc):Frz (pcsV l):=⟨.sl _ _ _ _ fun i j _ _=>fz_pcF _ j⟩
theorem fz_pc {sh:List (Nat×HObj)} {f:Nat→HV} {p:Pc} (h:∀ j,j < 9→f j=pcF p j):Fz sh (.agg 9 f) (pcH p):=.agg _ _ _ fun j hj=>by rw [h j hj];exact fz_pcF p j
theorem back_h (l:List Pc):HPure Tryz.prog 91 [pcsV l] (.fn (.func 103) 1 (fun i=>[HV.fp 1 (fun _=>pcsV l)].getD i default)):=by
 refine hpure_of Tryz.func91 rfl kr _ _ _ rfl 4 rfl rfl (fun w F=>?_)
 refine srg fun N h1=>?_
 refine hm_1 1 (hop_box (id:=1) (sz:=1) rfl rfl rfl (nb rfl) (nb rfl)) rfl rfl pre0 rfl rfl (c':=1) rfl ?_
 refine sa<|snl h1<|srg fun N h2=>?_
 refine s0 (hop_makeFunc (hs:=[_]) ⟨rfl,trivial⟩) ?_
 refine sa<|snl h2<|hw_ret ?_
 refine hq_ret1 rfl (rval_tmp rfl) [(1,_)] rfl (preC rfl pre0) ?_
 exact .fn _ _ _ _ (fun i hi=>by obtain rfl:i=0:=(by simpa using hi);exact .pt 1 0 0 0 1 _ (fun _=>pcsV l) (List.mem_cons_self ..) rfl (Nat.lt_succ_self 0) (Nat.le_refl 1) (fun j hj=>show Fz _ (pcsV l) (pcsV l) from Frz.fz))
theorem back_it (l:List Pc) (hl:l.length≤100000):HIter Tryz.prog 103 [.fp 1 (fun _=>pcsV l)] l.length (fun i=>[intV ((l.length - 1 - i:Nat):Int),pcH (l.getD (l.length - 1 - i) default)]):=by
 refine hiter_of Tryz.func103 rfl kr _ _ _ _ rfl 19 rfl rfl (fun X hXN hXy O W F hg=>?_)
 refine hw_seqC (fun Nh1 h1=>?_)
 refine hw_region ?_
 refine s0 (hlf ty_146) ?_
 refine s0 (hnl el_146) ?_
 refine s0 hsi ?_
 refine sa<|hseq_nil ?_
 refine h1 _ _ rfl ?_
 refine hw_block ?_
 refine hw_loopI (α:=Nat) (fun x=>[(0,.v (.fn (.yield X.l) 0 fun _=>default)),(1,.v (.fp 1 (fun _=>pcsV l))),(3,.v (intV ((x:Int) - 1)))]) (fun x=>x≤l.length) (fun x=>l.length - x) (fun x=>x) (l.length) (by exact Nat.le_refl _) (by first | exact hg | simpa using hg) (hsub_of rfl (Nat.le_refl _) tsa HpSub.nil) (fun r O W F c hx hg NhL2 hL2=>?_)
 (try dsimp only at hx hg hL2 ⊢)
 refine hw_seqC (fun Nh3 h3=>?_)
 refine hw_seqC (fun Nh4 h4=>?_)
 refine hw_region<|sm ?_
 refine s0 (hop_geq rfl rfl) ?_
 refine hseq_nil ?_
 refine h4 _ _ rfl ?_
 refine wc (fun hc0=>?_) (fun hc0=>?_)
 ·have hr0:=hc0;(try simp only [hcs,Int.reduceToNat] at hc0)
  have hr0:0 < r:=om;have hrr:l.length - 1 - (l.length - r)=r - 1:=om;have hrn:((r:Int) - 1).toNat=r - 1:=om
  refine hw_skip ?_
  refine h3 _ _ rfl ?_
  refine hw_seqC (fun Nh5 h5=>?_)
  refine hw_block ?_
  refine hw_seqC (fun Nh6 h6=>?_)
  refine hw_region<|sm<|sm ?_
  refine s0 (hlf ty_146) ?_
  refine sm ?_
  refine s0 (hix el_146) ?_
  refine s0 (hop_load_fp ty_74 rfl (nb rfl) (fun h=>(by cases h))) ?_
  refine hq_yield hg (by rw [hXN];omega) (xs:=[_,_]) [(0,.v (.fn (.yield X.l) 0 fun _=>default)),(1,.v (.fp 1 (fun _=>pcsV l))),(3,.v (intV ((r:Int) - 1)))] rfl ⟨rfl,⟨rfl,trivial⟩⟩ (by rw [hXy];exact ⟨fz_intB (by rw [hrr];omega),fz_pc (fun j hj=>by rw [hrr];show pcF _ j=_;rw [hrn]),trivial⟩) (TmFz.cons rfl fe (TmFz.cons rfl fe (TmFz.cons rfl fe TmFz.nil))) rfl (fun O W F hg=>?_) (fun W F hfr hjx=>?_)
  ·skip
   refine s0 (hop_not rfl) ?_
   refine hseq_nil ?_
   refine h6 _ _ rfl ?_
   refine wc (fun hc1=>?_) (fun hc1=>?_)
   ·have hr1:=hc1;(try simp only [hcs,Int.reduceToNat] at hc1)
    exfalso;simp at hr1
   have hr1:=hc1;(try simp only [hcs,Int.reduceToNat] at hc1)
   refine hw_skip<|hq_block ?_
   refine h5 _ _ rfl ?_
   refine hw_region<|sm ?_
   refine s0 (HOp.val (v':=intV (((r - 1:Nat):Int) - 1)) (hop_subi rfl rfl rfl (by omega) (by omega)) (congrArg intV (by omega))) ?_
   refine sa<|hseq_nil ?_
   exact hL2 (r - 1) O W F _ _ (by (try dsimp only);omega) (by (try dsimp only);omega) (by (try dsimp only);rw [show l.length - (r - 1)=l.length - r+1 by omega];exact hg) (hsub_of rfl (Nat.le_refl _) tsa HpSub.nil)
  ·skip
   refine s0 (hop_not rfl) ?_
   refine hseq_nil ?_
   refine h6 _ _ rfl ?_
   refine wc (fun hc1=>?_) (fun hc1=>?_)
   ·have hr1:=hc1;(try simp only [hcs,Int.reduceToNat] at hc1)
    refine hw_ret<|hq_block_ret<|hq_then_ret<|hq_then_ret<|hq_block_ret ?_
    refine hq_retI rfl ?_
    exact .inr ⟨_,by rw [hXN];omega,hjx⟩
   have hr1:=hc1;(try simp only [hcs,Int.reduceToNat] at hc1)
   exfalso;simp at hr1
 have hr0:=hc0;(try simp only [hcs,Int.reduceToNat] at hc0)
 refine hw_exit ?_
 refine hq_then_exit<|hq_then_exit<|hq_block_here ?_
 refine hq_fall ?_
 refine hq_retI rfl ?_
 obtain rfl:r=0:=om;exact .inl ⟨O,by have hj:=hg.j;rw [hXN];simpa using hj⟩
@[reducible] def nbO (g g1:Nat):HObj:=⟨g,1,1,36,0,fun _ _=>.pt 9001 g1 0 0⟩
@[reducible] def pcO (g:Nat) (x:Pc):HObj:=⟨g,1,9,74,0,fun _=>pcF x⟩
@[reducible] def onF (l:List Bag):Nat→Bag:=fun p=>l.getD p Bag.zero
@[reducible] def netL (g1 g2 g3 N:Nat) (on:List Bag) (β:Nat→Bag):List (Nat×HObj):=[(9001,netO g1 (.os 9002 g2 0 N) (.os 9003 g3 0 N)),(9002,rowO g2 N (onF on)),(9003,rowO g3 N β)]
@[reducible] def netL4 (g1 g2 g3 g4 N:Nat) (on:List Bag) (β:Nat→Bag):List (Nat×HObj):=[(9001,netO g1 (.os 9002 g2 0 N) (.os 9003 g3 0 N)),(9002,rowO g2 N (onF on)),(9003,rowO g3 N β),(9011,nbO g4 g1)]
def lkA (lo hi:Int) (g:Nat→Ly) (many k:Nat):List Lk:=(layA lo hi g many k).2.1++(g k).lk++(if hi < 0∧k+1=many then [((g k).pc.ends,(g k).pc.first)] else [])
theorem layA_lt {lo hi:Int} {g:Nat→Ly} {many k:Nat} (h:(k:Int) < lo):layA lo hi g many (k+1)=((layA lo hi g many k).1++(g k).on,lkA lo hi g many k++[((layA lo hi g many k).2.2.1.ends,(g k).pc.first)],(layA lo hi g many k).2.2.1.join (g k).pc,(layA lo hi g many k).2.2.2):=by
 simp only [layA];rw [if_pos h];rfl
theorem layA_ge {lo hi:Int} {g:Nat→Ly} {many k:Nat} (h:¬ (k:Int) < lo):layA lo hi g many (k+1)=((layA lo hi g many k).1++(g k).on,lkA lo hi g many k,(layA lo hi g many k).2.2.1,(layA lo hi g many k).2.2.2++[(g k).pc]):=by
 simp only [layA];rw [if_neg h];rfl
theorem lkA_ok {lo hi:Int} {g:Nat→Ly} {many N w k:Nat} (hg:∀ k,k < many→(g k).Ok (N+k * w) w) (hk:k < many):Lks (N+k * w+w) (lkA lo hi g many k):=by
 have hx:=hg k hk
 refine (((layA_ok hg k (by omega)).2.2.1.mono (by omega)).app hx.lk).app ?_
 split
 ·exact lks_one hx.pc.2 hx.pc.1 hx.inB.2
 ·exact fun q hq=>by cases hq
theorem inB_lt {N M:Nat} {x:Bag} (h:InB N M x):∀ p,p < 256→x.has p=true→p < M:=fun p hp hx=>(h p hp hx).2
theorem rest_len {lo hi:Int} {g:Nat→Ly} {many:Nat}:∀ k,(layA lo hi g many k).2.2.2.length≤k
  | 0=>Nat.le_refl _
  | k + 1 => by
    have:=rest_len (lo:=lo) (hi:=hi) (g:=g) (many:=many) k
    by_cases h:(k:Int) < lo
    · rw [layA_lt h];simp only;omega
    · rw [layA_ge h];simp only [List.length_append,List.length_singleton];omega
theorem drop_at {l:List Pc} {j:Nat} (h:j < l.length):l.drop (l.length - (j+1))=l.getD (l.length - 1 - j) default::l.drop (l.length - j):=by
 have e:l.length - (j+1)=l.length - 1 - j:=by omega
 have hlt:l.length - 1 - j < l.length:=by omega
 rw [e,List.drop_eq_getElem_cons hlt,List.getD_eq_getElem?_getD,List.getElem?_eq_getElem hlt]
 simp only [Option.getD_some]
 congr 2
 omega
theorem getD_mem {l:List Pc} {j:Nat} (h:j < l.length):l.getD j default∈l:=by
 rw [List.getD_eq_getElem?_getD,List.getElem?_eq_getElem h];exact List.getElem_mem h
theorem timesN_h (c g1 g2 g3 g4 N0 w:Nat) (on:List Bag) (β:Nat→Bag) (hon:on.length=N0) (hβ:∀ p,(β p).ok) (hz:∀ p,N0≤p→p < 256→β p=Bag.zero) (p:Pt) (g:Nat→Ly) (x1 x2 x3:HV) (hlo:0≤p.low) (hlo2:p.low≤20) (hhi:p.high≤20) (hm20:manyOf p.low p.high≤20)
  (hg:∀ k,k < manyOf p.low p.high→(g k).Ok (N0+k * w) w) (hN:N0+manyOf p.low p.high * w≤256)
  (hag:∀ k,k < manyOf p.low p.high→∀ M c g2 g3 on β,M=N0+k * w→on.length=M→(∀ p,(β p).ok)→(∀ p,M≤p→p < 256→β p=Bag.zero) →
   HFun Tryz.prog 67 c ([]++[.pt 9011 g4 0 0,x1,x2,x3]) (netL4 g1 g2 g3 g4 M on β) (RetP (fun (y:Nat×Nat) _=>True) (fun _=>pcH (g k).pc) (fun y=>netL4 g1 y.1 y.2 g4 (M+w) (on++(g k).on) (links β (g k).lk)))) :
  HFun Tryz.prog 66 c [.pt 9001 g1 0 0,ptH p,.fn (.func 67) 4 (fun i=>[HV.pt 9011 g4 0 0,x1,x2,x3].getD i default)] (netL4 g1 g2 g3 g4 N0 on β)
   (RetP (fun (y:Nat×Nat) _=>True) (fun _=>pcH (layT p.low p.high g).pc) (fun y=>netL4 g1 y.1 y.2 g4 (N0+manyOf p.low p.high * w) (on++(layT p.low p.high g).on) (links β (layT p.low p.high g).lk))):=by
 have hmi:=many_int p.low p.high hlo
 obtain ⟨many,hmany⟩:∃ m,m=manyOf p.low p.high:=⟨_,rfl⟩
 rw [←hmany] at hm20 hg hN hag hmi ⊢
 have hok:=layA_ok (lo:=p.low) (hi:=p.high) hg
 let k0:=c
 refine hfun_ofM Tryz.func66 rfl kr _ _ _ _ rfl 71 rfl rfl (fun X ok hX hM=>?_)
 refine srg fun N h1=>?_
 refine hm_1 3 (hop_box (id:=3) (sz:=1) rfl rfl rfl (nb rfl) (nb rfl)) rfl rfl pre0 rfl rfl (c':=c+1) rfl ?_
 refine hm_1 4 (hop_box (id:=4) (sz:=5) rfl rfl rfl (nb rfl) (nb rfl)) rfl rfl pre0 rfl rfl (c':=c+2) rfl ?_
 refine hm_1 6 (hop_alloc (id:=6) (sz:=9) zc_74 rfl rfl (nb rfl) (nb rfl)) rfl rfl pre0 rfl rfl (c':=c+3) rfl ?_
 refine snl h1<|srg fun N h2=>?_
 refine sf fd_29_2 ?_
 refine sl ty_3 ?_
 refine sa<|snl h2 ?_
 refine hw_joinc (α:=Nat) (fun x c=>⟨71,[(2,.v (.fn (.func 67) 4 (fun i=>[HV.pt 9011 g4 0 0,x1,x2,x3].getD i default))),(3,.v (.pt 3 k0 0 0)),(4,.v (.pt 4 (k0+1) 0 0)),(6,.v (.pt 6 (k0+2) 0 0)),(7,.v (intV (many:Int)))],[(9001,netO g1 (.os 9002 g2 0 N0) (.os 9003 g3 0 N0)),(9002,rowO g2 N0 (onF on)),(9003,rowO g3 N0 β),(9011,nbO g4 g1),(3,nbO k0 g1),(4,⟨k0+1,1,5,29,0,fun _=>ptF p⟩),(6,pcO (k0+2) default)],c⟩) (fun x=>x≤0) (fun NhJ3 hJ3=>?_) (fun q c hx=>?_)
 ·skip
  refine srg fun N h4=>sm ?_
  refine s0 hli ?_
  refine snl h4 ?_
  refine wc (fun hc0=>?_) (fun hc0=>?_)
  ·have hr0:=hc0;(try simp only [hcs,Int.reduceToNat] at hc0)
   refine hw_region ?_
   refine sf fd_29_1 ?_
   refine sl ty_3 ?_
   refine s0 (HOp.val (v':=intV (many:Int)) (hop_max rfl rfl) (by rw [←hmi,if_pos hc0])) ?_
   refine sa<|hseq_nil ?_
   exact hJ3 (0) _ _ (by (try dsimp only);first | done | exact Nat.le_refl _) (hsub_of rfl (Nat.le_refl _) tsa (hsr rfl (hsr rfl (hsr rfl (hsr rfl (hsr rfl (hsr rfl (HpSub.cons rfl (osub_pc (by exact j9 rfl rfl rfl rfl rfl rfl rfl rfl rfl)) HpSub.nil))))))))
  have hr0:=hc0;(try simp only [hcs,Int.reduceToNat] at hc0)
  refine hw_skip ?_
  exact hJ3 (0) _ _ (by (try dsimp only);first | done | exact Nat.le_refl _) (hsub_of rfl (Nat.le_refl _) (tsr rfl (tsr rfl (tsr rfl (tsr rfl (TmSub.cons rfl (by rw [←hmi,if_neg hc0];exact .refl _) TmSub.nil))))) (hsr rfl (hsr rfl (hsr rfl (hsr rfl (hsr rfl (hsr rfl (HpSub.cons rfl (osub_pc (by exact j9 rfl rfl rfl rfl rfl rfl rfl rfl rfl)) HpSub.nil))))))))
 ·skip
  (try dsimp only at hx ⊢)
  let k1:=c
  refine srg fun N h5=>?_
  refine s0 (hop_build (hs:=[(8,1,_)]) st_74 rfl rfl ⟨rfl,rfl,rfl,rfl,rfl,trivial⟩) ?_
  refine hm_1 8 (hop_alloc (id:=8) (sz:=9) zc_74 rfl rfl (nb rfl) (nb rfl)) rfl rfl pre0 rfl rfl (c':=c+1) rfl ?_
  refine sw (c+2) ty_74 ?_
  refine snl h5<|srg fun N h6=>sa<|snl h6<|hw_seq fun Nh7 h7=>srg fun N h8=>sm<|sm<|snl h8<|hw_block ?_
  refine hw_own 9 8009 9 74 ((pcsF [])) rfl (by decide) rfl (c':=c+3) rfl ?_
  refine hw_loopc (α:=Nat×Nat×List Bag×(Nat→Bag)×Pc×List Pc×Nat×Nat×Nat) (fun x c=>⟨71,[(2,.v (.fn (.func 67) 4 (fun i=>[HV.pt 9011 g4 0 0,x1,x2,x3].getD i default))),(3,.v (.pt 3 k0 0 0)),(4,.v (.pt 4 (k0+1) 0 0)),(6,.v (.pt 6 (k0+2) 0 0)),(7,.v (intV (many:Int))),(8,.v (.pt 8 k1 0 0)),(9,.v (.os 8009 x.2.2.2.2.2.2.2.2 0 x.2.2.2.2.2.1.length)),(23,.v (intV (many:Int))),(24,.v (intV (x.1:Int)))],[(9001,netO g1 (.os 9002 x.2.2.2.2.2.2.1 0 x.2.1) (.os 9003 x.2.2.2.2.2.2.2.1 0 x.2.1)),(9002,rowO x.2.2.2.2.2.2.1 x.2.1 (onF x.2.2.1)),(9003,rowO x.2.2.2.2.2.2.2.1 x.2.1 x.2.2.2.1),(9011,nbO g4 g1),(3,nbO k0 g1),(4,⟨k0+1,1,5,29,0,fun _=>ptF p⟩),(6,pcO (k0+2) default),(8,pcO k1 x.2.2.2.2.1),(8009,pcsO x.2.2.2.2.2.2.2.2 x.2.2.2.2.2.1)],c⟩) (fun x=>x.1≤many∧x.2.1=N0+x.1 * w∧x.2.2.1=on++(layA p.low p.high g many x.1).1∧x.2.2.2.1=links β (layA p.low p.high g many x.1).2.1∧x.2.2.2.2.1=(layA p.low p.high g many x.1).2.2.1∧x.2.2.2.2.2.1=(layA p.low p.high g many x.1).2.2.2) (fun x=>many - x.1) ((0,N0,on,β,Pc.nil,[],g2,g3,c+2)) (by exact ⟨Nat.zero_le _,by simp,by simp [layA],rfl,rfl,rfl⟩) (hsub_of rfl (Nat.le_refl _) tsa (hsr rfl (hsr rfl (hsr rfl (hsr rfl (hsr rfl (hsr rfl (hsr rfl (HpSub.cons rfl (osub_pc (by exact j9 rfl rfl rfl rfl rfl rfl rfl rfl rfl)) hsa))))))))) (fun x c hx NhL9 hL9=>?_)
  revert hx hL9;obtain ⟨kk,MM,on1,be1,ou1,rs1,y2,y3,gr⟩:=x;intro hx hL9;dsimp only at hx hL9 ⊢
  obtain ⟨hk,hMM,hon1,hbe1,hou1,hrs1⟩:=hx
  have hrl:=(show rs1.length≤kk by rw [hrs1];exact rest_len kk)
  refine srg fun N h10=>?_
  refine s0 hli ?_
  refine snl h10<|hw_seq fun Nh11 h11=>?_
  refine wc (fun hc1=>?_) (fun hc1=>?_)
  ·have hr1:=hc1;(try simp only [hcs,Int.reduceToNat] at hc1)
   have hkm:kk < many:=om;have hgk:=hg kk hkm;obtain ⟨a1,a2,a3,a4,a5,a6⟩:=hok kk hk;have hkw:kk * w+w≤many * w:=(by rw [←Nat.succ_mul];exact Nat.mul_le_mul_right w hkm);have hMw:MM+w≤256:=om;have hine:InB (N0+kk * w) (MM+w) (g kk).pc.ends:=(by rw [hMM];exact hgk.inB.2);have hbe2:∀ q,(links be1 (g kk).lk q).ok:=links_ok hgk.lk (by rw [hbe1];exact links_ok a3 hβ);have hou2:ou1.ok:=(by rw [hou1];exact a4);have hino:InB N0 (MM+w) ou1.ends:=(by rw [hou1,hMM];exact a5.2.mono (Nat.le_refl _) om)
   refine hw_skip<|h11 _<|hw_seq fun Nh12 h12=>hw_block<|srg fun N h13=>sm<|sa<|snl h13<|srg fun N h14=>sm ?_
   refine hf_callVR 28 (xs:=[]) (cs:=[_,_,_,_]) (pre:=[(9001,_),(9002,_),(9003,_),(9011,_)]) (hag kk hkm MM _ y2 y3 on1 be1 hMM (by rw [hon1,List.length_append,a1,hon,hMM]) (by rw [hbe1];exact links_ok a3 hβ) (by rw [hbe1,hMM];exact links_zero a3 (fun q hq hq2=>hz q om hq2))) rfl rfl (fun i hi=>by first | rfl | (rcases i with _ | _ | _ | _ | i <;> first | rfl | (exact absurd hi om) | (simp at hi))) trivial (preC rfl (preC rfl (preC rfl (preC rfl pre0)))) rfl rfl (fun x1 c1 hzz=>?_)
   obtain ⟨z2,z3⟩:=x1
   (try dsimp only)
   refine hm_1 11 (hop_alloc (id:=11) (sz:=9) zc_74 rfl rfl (nb rfl) (nb rfl)) rfl rfl pre0 rfl rfl (c':=c1+1) rfl ?_
   refine sw (c1+2) ty_74 ?_
   refine snl h14 ?_
   refine hw_joinc (α:=Nat→Bag) (fun x c=>⟨71,[(2,.v (.fn (.func 67) 4 (fun i=>[HV.pt 9011 g4 0 0,x1,x2,x3].getD i default))),(3,.v (.pt 3 k0 0 0)),(4,.v (.pt 4 (k0+1) 0 0)),(6,.v (.pt 6 (k0+2) 0 0)),(7,.v (intV (many:Int))),(8,.v (.pt 8 k1 0 0)),(9,.v (.os 8009 gr 0 rs1.length)),(10,.v (intV (kk:Int))),(11,.v (.pt 11 c1 0 0)),(23,.v (intV (many:Int))),(24,.v (intV (kk:Int)))],[(9001,netO g1 (.os 9002 z2 0 (MM+w)) (.os 9003 z3 0 (MM+w))),(9002,rowO z2 (MM+w) (onF (on1++(g kk).on))),(9003,rowO z3 (MM+w) x),(9011,nbO g4 g1),(3,nbO k0 g1),(4,⟨k0+1,1,5,29,0,fun _=>ptF p⟩),(6,pcO (k0+2) default),(8,pcO k1 ou1),(8009,pcsO gr rs1),(11,pcO c1 (g kk).pc)],c⟩) (fun x=>x=links β (lkA p.low p.high g many kk)) (fun NhJ15 hJ15=>?_) (fun be2 c hx=>?_)
   ·skip
    refine srg fun N h16=>?_
    refine sf fd_29_2 ?_
    refine sl ty_3 ?_
    refine s0 hli ?_
    refine sm ?_
    refine gm 32 ?_
    refine gm 32 ?_
    refine stg 32 (fun hb=>hop_subi rfl rfl rfl (by simp at hb;exact omx) (by simp at hb;exact omx)) rfl rfl rfl rfl rfl ?_
    refine stg 32 (fun hb=>hop_eql rfl rfl) rfl rfl rfl rfl rfl ?_
    refine hq_p 37 (hstep_and _ _ rfl rfl rfl) rfl rfl rfl ?_
    refine nu ?_
    refine h16 _ ?_
    refine wc (fun hc2=>?_) (fun hc2=>?_)
    ·have hr2:=hc2;(try simp only [hcs,Int.reduceToNat] at hc2)
     refine hw_region ?_
     refine sl ty_36 ?_
     refine sf fd_74_1 ?_
     refine sl ty_33 ?_
     refine sf fd_74_0 ?_
     refine sl ty_33 ?_
     refine (hsub_shr 40 [] rfl pre0 rfl ((show Fz [] _ (bagH (g kk).pc.ends) from fz_bg (by exact j4 rfl rfl rfl rfl)))).seq ?_
     refine (hsub_shr 42 [] rfl pre0 rfl ((show Fz [] _ (bagH (g kk).pc.first) from fz_bg (by exact j4 rfl rfl rfl rfl)))).seq ?_
     refine hm_ 43 (hop_funD (xs:=[_,_,_]) (pre:=[(9001,_),(9002,_),(9003,_)]) (link_h (g kk).pc.ends (g kk).pc.first hgk.pc.2 hgk.pc.1 (MM+w) g1 z2 z3 _ _ hbe2 hMw (inB_lt hine)) ((clk3 rfl)) ⟨rfl,⟨rfl,⟨rfl,trivial⟩⟩⟩) rfl rfl (preC rfl (preC rfl (preC rfl pre0))) rfl rfl (c':=c1+3) rfl ?_
     refine hseq_nil ?_
     exact hJ15 (linkF (links be1 (g kk).lk) ((g kk).pc.ends,(g kk).pc.first)) _ _ (by (try dsimp only);rw [hbe1];unfold lkA;rw [if_pos om,links_app,links_app];rfl) (hsub_of rfl (Nat.le_refl _) tsa hsa)
    have hr2:=hc2;(try simp only [hcs,Int.reduceToNat] at hc2)
    refine hw_skip ?_
    exact hJ15 (links be1 (g kk).lk) _ _ (by (try dsimp only);rw [hbe1];unfold lkA;rw [if_neg (fun h=>by simp [h.1] at hc2;omega),List.append_nil,links_app]) (hsub_of rfl (Nat.le_refl _) tsa hsa)
   ·skip
    (try dsimp only at hx ⊢)
    have hbe3:∀ q,(be2 q).ok:=(by rw [hx];exact links_ok (lkA_ok hg hkm) hβ)
    refine srg fun N h17=>sm ?_
    refine sf fd_29_1 ?_
    refine sl ty_3 ?_
    refine s0 hli ?_
    refine snl h17 ?_
    refine wc (fun hc3=>?_) (fun hc3=>?_)
    ·have hr3:=hc3;(try simp only [hcs,Int.reduceToNat] at hc3)
     refine hw_region ?_
     refine sl ty_36 ?_
     refine sl ty_74 ?_
     refine sl ty_74 ?_
     refine hm_ 51 (hop_funD (xs:=[_,_,_]) (pre:=[(9001,_),(9002,_),(9003,_)]) (join_h ou1 (g kk).pc hou2 hgk.pc (MM+w) g1 z2 z3 _ _ hbe3 hMw (inB_lt hino)) ((clk3 rfl)) ⟨rfl,⟨rfl,⟨rfl,trivial⟩⟩⟩) rfl rfl (preC rfl (preC rfl (preC rfl pre0))) rfl rfl (c':=c+1) rfl ?_
     refine sw (c+2) ty_74 ?_
     refine hseq_nil<|hq_block<|h12 _<|hw_region ?_
     refine s0 hai ?_
     refine sm<|hseq_nil ?_
     exact hL9 ((kk+1,MM+w,on1++(g kk).on,linkF be2 (ou1.ends,(g kk).pc.first),ou1.join (g kk).pc,rs1,z2,z3,gr)) _ _ (by (try dsimp only);have hA:=layA_lt (hi:=p.high) (g:=g) (many:=many) (show (kk:Int) < p.low by omega);exact ⟨by omega,by rw [hMM,Nat.succ_mul,Nat.add_assoc],by rw [hA,hon1,List.append_assoc],by rw [hA,hx,hou1];simp only;rw [links_app];rfl,by rw [hA,hou1],by rw [hA,hrs1]⟩) (by (try dsimp only);omega) (hsub_of rfl (Nat.le_refl _) tsa (hsr rfl (hsr rfl (hsr rfl (hsr rfl (hsr rfl (hsr rfl (hsr rfl (HpSub.cons rfl (osub_pc (by exact j9 rfl rfl rfl rfl rfl rfl rfl rfl rfl)) hsa)))))))))
    have hr3:=hc3;(try simp only [hcs,Int.reduceToNat] at hc3)
    refine hw_region<|sm ?_
    refine sl ty_74 ?_
    refine hm_1 54 (hop_buildSlice (id:=54) (hs:=[_]) ei_146 (nb rfl) rfl (nb rfl) ⟨rfl,rfl,rfl,rfl,trivial⟩) rfl rfl pre0 rfl rfl (c':=c+1) rfl ?_
    refine hm_1 55 (hol_append ei_146 (nb rfl) rfl om (nb rfl) (srl_os0 rfl (nb rfl)) om rfl) rfl rfl (preC rfl (pre1 rfl)) rfl rfl (c':=c+2) rfl ?_
    refine sa<|hseq_nil<|hq_block<|h12 _<|hw_region ?_
    refine s0 hai ?_
    refine sm<|hseq_nil ?_
    exact hL9 ((kk+1,MM+w,on1++(g kk).on,be2,ou1,rs1++[(g kk).pc],z2,z3,c+1)) _ _ (by (try dsimp only);have hA:=layA_ge (hi:=p.high) (g:=g) (many:=many) (show ¬ (kk:Int) < p.low by omega);exact ⟨by omega,by rw [hMM,Nat.succ_mul,Nat.add_assoc],by rw [hA,hon1,List.append_assoc],by rw [hA,hx],by rw [hA,hou1],by rw [hA,hrs1]⟩) (by (try dsimp only);omega) (hsub_of rfl (Nat.le_refl _) (tsr rfl (tsr rfl (tsr rfl (tsr rfl (tsr rfl (tsr rfl (TmSub.cons rfl (sb_os (by simp)) tsa))))))) (hsr rfl (hsr rfl (hsr rfl (hsr rfl (hsr rfl (hsr rfl (hsr rfl (hsr rfl (HpSub.cons rfl (by exact osub_snoc (enc:=pcF) (d:=default) rfl (fun i j _ _=>.refl _) (fun j hj=>.refl _)) HpSub.nil))))))))))
  have hr1:=hc1;(try simp only [hcs,Int.reduceToNat] at hc1)
  have hkm:kk=many:=om;obtain ⟨a1,a2,a3,a4,a5,a6⟩:=hok kk hk;have hMm:MM=N0+many * w:=(by rw [hMM,hkm]);have hM256:MM≤256:=(by rw [hMm];exact hN);have hrs:∀ x∈rs1,x.ok∧x.inB N0 MM:=(by rw [hrs1,hMM];exact a6);have hou2:ou1.ok:=(by rw [hou1];exact a4);have hino:InB N0 MM ou1.ends:=(by rw [hou1,hMM];exact a5.2);have hbe7:∀ q,(be1 q).ok:=(by rw [hbe1];exact links_ok a3 hβ)
  refine hw_exit ?_
  refine hq_then_exit<|hq_then_exit<|hq_block_here<|h7 _<|srg fun N h18=>?_
  refine s0 (hop_build (hs:=[(8,1,_)]) st_74 rfl rfl ⟨rfl,rfl,rfl,rfl,rfl,trivial⟩) ?_
  refine hm_1 12 (hop_alloc (id:=12) (sz:=9) zc_74 rfl rfl (nb rfl) (nb rfl)) rfl rfl pre0 rfl rfl (c':=c+1) rfl ?_
  refine sw (c+2) ty_74 ?_
  refine snl h18<|hw_seq fun Nh19 h19=>srg fun N h20=>sm ?_
  refine (hsub_shr 58 [(8009,_)] rfl (preC rfl pre0) rfl ((show Fz _ _ (pcsV rs1) from fz_row (l:=rs1) (enc:=pcF) (d:=default) (List.mem_cons_self ..) rfl rfl (Nat.le_refl _) (fun i j hi hj=>fz_pcF _ j)))).seq ?_
  refine s0 (hop_call0 (xs:=[_]) (back_h rs1) ⟨rfl,trivial⟩ ⟨fe,trivial⟩) ?_
  refine snl h20<|hw_block ?_
  refine hw_range (α:=Nat×(Nat→Bag)×Pc) ⟨rfl,rfl,rfl⟩ (back_it rs1 om) rfl (cs:=[_]) rfl (fun i hi=>by first | rfl | (cases i <;> first | rfl | (simp at hi))) ⟨fe,trivial⟩ rfl (fun _=>rfl) rfl (fun x=>[(9001,netO g1 (.os 9002 y2 0 MM) (.os 9003 y3 0 MM)),(9002,rowO y2 MM (onF on1)),(9003,rowO y3 MM x.2.1),(9011,nbO g4 g1),(3,nbO k0 g1),(6,pcO (k0+2) default),(8,pcO k1 ou1),(12,pcO c x.2.2)]) (fun x=>x.1) (fun x=>x.1≤rs1.length∧x.2.1=links be1 (tailB (rs1.drop (rs1.length - x.1))).1∧x.2.2=(tailB (rs1.drop (rs1.length - x.1))).2) ((0,be1,Pc.nil)) (by exact ⟨Nat.zero_le _,by simp [tailB,links],by simp [tailB]⟩) (by first | rfl | omega) (hsr rfl (hsr rfl (hsr rfl (hsr rfl (hsr rfl (hsr rfl (hsr rfl (HpSub.cons rfl (osub_pc (by exact j9 rfl rfl rfl rfl rfl rfl rfl rfl rfl)) HpSub.nil)))))))) rfl (fun x c hx hi C1 lr hC1 NhR21 hR21=>?_) (fun x c hx hi=>?_)
  ·skip
   revert hx hi hR21;obtain ⟨jj,be4,ta4⟩:=x;intro hx hi hR21;dsimp only at hx hi hR21 ⊢
   obtain ⟨hj,hbe4,hta4⟩:=hx
   have htt:=tailB_ok (N:=N0) (M:=MM) (l:=rs1.drop (rs1.length - jj)) (fun x hx=>hrs x (List.mem_of_mem_drop hx));have hto:ta4.ok:=(by rw [hta4];exact htt.2.1);have hbe5:∀ q,(be4 q).ok:=(by rw [hbe4];exact links_ok htt.1 hbe7);have hxm:=hrs _ (getD_mem (l:=rs1) (j:=rs1.length - 1 - jj) om);have hxo:=hxm.1;have hxin:=hxm.2.2
   refine hw_region ?_
   refine hm_1 14 (hop_alloc (id:=14) (sz:=9) zc_74 rfl rfl (nb rfl) (nb rfl)) rfl rfl pre0 rfl rfl (c':=c+1) rfl ?_
   refine sw (c+2) ty_74 ?_
   refine hseq_nil ?_
   refine hR21 _ (fun C2 hC22=>?_)
   refine hw_block<|srg fun N h23=>?_
   refine sl ty_36 ?_
   refine sl ty_74 ?_
   refine sl ty_74 ?_
   refine hm_ 65 (hop_funD (xs:=[_,_,_]) (pre:=[(9001,_),(9002,_),(9003,_)]) (join_h (rs1.getD (rs1.length - 1 - jj) default) ta4 hxo hto MM g1 y2 y3 _ _ hbe5 hM256 (inB_lt hxin)) ((clk3 rfl)) ⟨rfl,⟨rfl,⟨rfl,trivial⟩⟩⟩) rfl rfl (preC rfl (preC rfl (preC rfl pre0))) rfl rfl (c':=c+3) rfl ?_
   refine sw (c+4) ty_74 ?_
   refine snl h23<|hw_region ?_
   refine sf fd_74_2 ?_
   refine sx (c+5) ty_4 ?_
   refine hseq_nil<|hq_block ?_
   exact rq_normal ⟨(jj+1,linkF be4 ((rs1.getD (rs1.length - 1 - jj) default).ends,ta4.first),{ (rs1.getD (rs1.length - 1 - jj) default).join ta4 with empty:=true }),by (try dsimp only);exact ⟨by omega,by rw [drop_at hi,hbe4,hta4];simp only [tailB];rw [links_app];rfl,by rw [drop_at hi,hta4];rfl⟩,by first | rfl | omega,(hsr rfl (hsr rfl (hsr rfl (hsr rfl (hsr rfl (hsr rfl (hsr rfl (HpSub.cons rfl (osub_pc (by exact j9 rfl rfl rfl rfl rfl rfl rfl rfl rfl)) HpSub.nil))))))))⟩
  ·skip
   revert hx hi;obtain ⟨jj,be4,ta4⟩:=x;intro hx hi;dsimp only at hx hi ⊢
   obtain ⟨hj,hbe4,hta4⟩:=hx
   have htt:=tailB_ok (N:=N0) (M:=MM) (l:=rs1.drop (rs1.length - jj)) (fun x hx=>hrs x (List.mem_of_mem_drop hx));have hto:ta4.ok:=(by rw [hta4];exact htt.2.1);have hbe5:∀ q,(be4 q).ok:=(by rw [hbe4];exact links_ok htt.1 hbe7);have hta5:ta4=(tailB rs1).2:=(by rw [hta4,hi,Nat.sub_self,List.drop_zero]);have hbe6:be4=links be1 (tailB rs1).1:=(by rw [hbe4,hi,Nat.sub_self,List.drop_zero]);have hT:layT p.low p.high g=⟨(layA p.low p.high g many kk).1,(layA p.low p.high g many kk).2.1++(tailB rs1).1++[(ou1.ends,ta4.first)],ou1.join ta4⟩:=(by rw [hta5,hou1,hrs1,hkm];unfold layT;rw [←hmany])
   refine hq_block<|h19 _<|srg fun N h24=>?_
   refine sl ty_36 ?_
   refine sl ty_74 ?_
   refine sl ty_74 ?_
   refine hm_ 70 (hop_funD (xs:=[_,_,_]) (pre:=[(9001,_),(9002,_),(9003,_)]) (join_h ou1 ta4 hou2 hto MM g1 y2 y3 _ _ hbe5 hM256 (inB_lt hino)) ((clk3 rfl)) ⟨rfl,⟨rfl,⟨rfl,trivial⟩⟩⟩) rfl rfl (preC rfl (preC rfl (preC rfl pre0))) rfl rfl (c':=c+1) rfl ?_
   refine sw (c+2) ty_74 ?_
   refine snl h24<|hw_ret ?_
   refine hq_retF hM ?_
   refine hf_retR1 ok hX RetS.one rfl (rvl_cell rfl rfl ty_74 rqc rfl rfl) [] rfl pre0 ((y2,y3)) (trivial) (by rfl) (by rfl) ((by rw [hT];exact kz_pc (by exact j9 rfl rfl rfl rfl rfl rfl rfl rfl rfl))) ?_
   exact ⟨⟨_,rfl,(by rw [←hMm];exact okz_net rfl rfl rfl rfl)⟩,⟨⟨_,rfl,(by rw [←hMm];exact okz_row (fun q _=>by rw [hT,hon1]))⟩,⟨⟨_,rfl,(by rw [←hMm];exact okz_row (fun q _=>by rw [hT];simp only;rw [links_app,links_app,←hbe1,←hbe6];rfl))⟩,⟨⟨_,rfl,okz1 kza⟩,trivial⟩⟩⟩⟩
theorem hsub_shrK {C:Ctx} {n clk:Nat} {tm:List (Nat×TV)} {hp:List (Nat×HObj)} (t:Nat) (sh kp:List (Nat×HObj)) (hd:dupfree (sh.map (·.1))=true) (hsh:∀ p∈sh,hget hp p.1=some p.2) (hkp:∀ p∈kp,hget hp p.1=some p.2) {x y:HV} (ht:tget tm t=some (.v x)) (hz:Kz kp sh x y) :
  HSub C ⟨n,tm,hp,clk⟩ ⟨n,(t,.v y)::tm,sh.map (fun p=>(p.1,p.2.full))++hp,clk⟩:=by
 intro a w ⟨E,e0,r,hG,hsz,hdf,htm⟩
 obtain ⟨E1,e1,hL,hG1,hs1,r1⟩:=r.shareAll sh hd hsh
 refine ⟨E1,e0.trans e1,by simp only [hget_append];exact r1,fun g hg=>hG g (by rw [←hG1];exact hg),hsz,hdf.ext e1,fun t' z hz'=>?_⟩
 simp only [tget_cons] at hz'
 split at hz'
 ·rename_i e;subst e;injection hz' with hz';subst hz'
  exact hz.sound (E:=E1) (E':=E1) (fun _ h=>h) (fun _ _ _=>rfl) (fun id o ho=>by
   obtain ⟨l,hl,b⟩:=r.obj id o (hkp (id,o) (hget_mem ho))
   rw [hG1];exact b.G) hs1 ((htm t' _ ht).ext e1)
 ·exact (htm t' z hz').ext e1
@[reducible] def LayN (mv:HV) (m:List UInt8→Bag) (e:List Pt) (b:Nat) (t:T):Prop:=∀ c g1 g2 g3 N on β,on.length=N→N+t.w≤256→(∀ p,(β p).ok)→(∀ p,N≤p→p < 256→β p=Bag.zero) →
 HFun Tryz.prog 37 c [.pt 9001 g1 0 0,ptsV e,intV ((b+t.size - 1:Nat):Int),mv] (netL g1 g2 g3 N on β) (RetP (fun (y:Nat×Nat) _=>True) (fun _=>pcH (lay m t N).pc) (fun y=>netL g1 y.1 y.2 (N+t.w) (on++(lay m t N).on) (links β (lay m t N).lk)))
theorem lay1_h (mv:HV) (m:List UInt8→Bag) (e:List Pt) (he:e.length≤100000) (b:Nat) (t:T) (hmv:∀ sh,Fz sh mv mv) (hl:LayN mv m e b t) (p:Pt) (hp:p.kids=[((b+t.size - 1:Nat):Int)]) (c g1 g2 g3 g4 M:Nat) (on:List Bag) (β:Nat→Bag) (hon:on.length=M) (hM2:M+t.w≤256) (hβ:∀ p,(β p).ok) (hz:∀ p,M≤p→p < 256→β p=Bag.zero) :
  HFun Tryz.prog 67 c ([]++[.pt 9011 g4 0 0,.fp 1 (fun _=>ptsV e),.fp 5 (ptF p),.fp 1 (fun _=>mv)]) (netL4 g1 g2 g3 g4 M on β) (RetP (fun (y:Nat×Nat) _=>True) (fun _=>pcH (lay m t M).pc) (fun y=>netL4 g1 y.1 y.2 g4 (M+t.w) (on++(lay m t M).on) (links β (lay m t M).lk))):=by
 have hkl:p.kids.length=1:=by rw [hp];rfl
 refine hfun_of Tryz.func67 rfl kr _ _ _ _ rfl 13 rfl rfl (fun X ok hX=>?_)
 refine srg fun N h1=>?_
 refine hm_1 4 (hop_alloc (id:=4) (sz:=9) zc_74 rfl rfl (nb rfl) (nb rfl)) rfl rfl pre0 rfl rfl (c':=c+1) rfl ?_
 refine snl h1<|hw_seq fun Nh2 h2=>hd_start ?_
 refine dl 1 ty_36 ?_
 refine d0 2 (hlf ty_24) ?_
 refine d0 3 (hop_fa_fp fd_29_4 rfl (nb rfl)) ?_
 refine d0 4 (hlf ty_25) ?_
 refine d0 5 (hix el_25) ?_
 refine d0 6 (HOp.val (v':=intV ((b+t.size - 1:Nat):Int)) (hop_load_fp ty_3 rfl (nb rfl) (fun h=>(by rfl))) ((by show intV (p.kids.getD 0 0)=_;rw [hp];rfl))) ?_
 refine d0 7 (hlf ty_35) ?_
 refine hd_cut kr kr kr kr (c':=c+8) rfl ?_ (by simp)
 refine hf_callR 12 (xs:=[_,_,_,_]) (pre:=[(9001,_),(9002,_),(9003,_)]) (hl _ g1 g2 g3 M on β hon hM2 hβ hz) ⟨rfl,⟨rfl,⟨rfl,⟨rfl,trivial⟩⟩⟩⟩ (preC rfl (preC rfl (preC rfl pre0))) rfl rfl (fun x1 c1 hyy=>?_)
 obtain ⟨y2,y3⟩:=x1
 (try dsimp only)
 refine sw (c1+1) ty_74 ?_
 refine snl h2<|hw_ret ?_
 refine hf_retR1 ok hX RetS.one rfl (rvl_cell rfl rfl ty_74 rqc rfl rfl) [] rfl pre0 ((y2,y3)) (trivial) (by rfl) (by rfl) (kz_pc (by exact j9 rfl rfl rfl rfl rfl rfl rfl rfl rfl)) ?_
 exact ⟨⟨_,rfl,okz_net rfl rfl rfl rfl⟩,⟨⟨_,rfl,okz_row (fun _ _=>rfl)⟩,⟨⟨_,rfl,okz_row (fun _ _=>rfl)⟩,⟨⟨_,rfl,okz1 kza⟩,trivial⟩⟩⟩⟩
theorem Rep.ren {w w':World} {E E' E'':Env} (hF:∀ a,E'.F a→E''.F a) (hL:∀ k l,E''.L k=some l→E.G l.g→E'.L k=some l) (hG:∀ g,E.G g→E''.G g) {v:Value} {x:HV} (h:Rep w' E' v x):∀ {v0:Value},Rep w E v0 x→Rep w' E'' v x:=by
  induction h with
  | imm v=>intro v0 _;exact .imm v
  | agg cs n f vs hn hv _ ih=>intro v0 h0;cases h0 with | agg _ _ _ vs0 _ _ h0=>exact .agg cs n f vs hn hv (fun i hi=>ih i hi (h0 i hi))
  | tup cs n f vs hn hv _ ih=>intro v0 h0;cases h0 with | tup _ _ _ vs0 _ _ h0=>exact .tup cs n f vs hn hv (fun i hi=>ih i hi (h0 i hi))
  | sl A n c sz f vs hc hm hA _ ih =>
    intro v0 h0
    cases h0 with
    | sl _ _ _ _ _ vs0 _ _ _ h0 =>
      exact .sl A n c sz f vs hc hm (fun hn=>by
        obtain ⟨b,o,h1,h2,h3⟩:=hA hn
        exact ⟨b,o,h1,h2,fun i j hi hj=>⟨hF _ (h3 i j hi hj).1,(h3 i j hi hj).2⟩⟩) (fun i j hi hj=>ih i j hi hj (h0 i j hi hj))
  | fp b o n f vs hA _ ih=>intro v0 h0;cases h0 with | fp _ _ _ _ vs0 _ h0=>exact .fp b o n f vs (fun j hj=>⟨hF _ (hA j hj).1,(hA j hj).2⟩) (fun j hj=>ih j hj (h0 j hj))
  | pt b k id g i off hg h=>intro v0 h0;cases h0 with | pt _ _ _ _ _ _ hg0 _=>exact .pt b k id g i off (hG _ hg0) (fun l hl hlg=>h l (hL id l hl (hlg▸hg0)) hlg)
  | os A n c id g lo hg hc hm hA h0 =>
    intro v0 hh
    cases hh with
    | os _ _ _ _ _ _ hg0 _ _ _ _ =>
      exact .os A n c id g lo (hG _ hg0) hc hm (fun hn=>by
        obtain ⟨b,k,h1,h2⟩:=hA hn
        exact ⟨b,k,h1,fun l hl hlg=>h2 l (hL id l hl (hlg▸hg0)) hlg⟩) (fun l hl hlg=>h0 l (hL id l hl (hlg▸hg0)) hlg)
  | ifc t v x _ ih=>intro v0 h0;cases h0 with | ifc _ _ _ h0=>exact .ifc t v x (ih h0)
  | fn f cs n x vs hn hv _ ih=>intro v0 h0;cases h0 with | fn _ _ _ _ vs0 _ _ h0=>exact .fn f cs n x vs hn hv (fun i hi=>ih i hi (h0 i hi))
  | bnd f v x _ ih=>intro v0 h0;cases h0 with | bnd _ _ _ h0=>exact .bnd f v x (ih h0)
  | npn id g hg h =>
    intro v0 h0
    cases h0 with
    | npn _ _ hg0 _=>exact .npn id g (hG _ hg0) (fun l hl hlg=>h l (hL id l hl (hlg▸hg0)) hlg)
    | npp _ _ _ hg0 _ _=>exact .npn id g (hG _ hg0) (fun l hl hlg=>h l (hL id l hl (hlg▸hg0)) hlg)
  | npp v id g hg hc h ih =>
    intro v0 h0
    have hg0:E.G g:=by cases h0 with | npn _ _ hg0 _=>exact hg0 | npp _ _ _ hg0 _ _=>exact hg0
    refine .npp v id g (hG _ hg0) (fun l hl hlg=>hc l (hL id l hl (hlg▸hg0)) hlg) ?_
    cases h with
    | pt b k _ _ _ _ _ hh=>exact .pt b k id g 0 0 (hG _ hg0) (fun l hl hlg=>hh l (hL id l hl (hlg▸hg0)) hlg)
def NoClk (r:HV):Prop:=∀ {w:World} {E E':Env} {v:Value},Rep w E v r→Rep w E' v r
theorem noClk_imm (u:Value):NoClk (.imm u):=fun h=>by have:=h.imm_inv;subst this;exact .imm _
theorem noClk_agg {n:Nat} {f:Nat→HV} (hf:∀ i,i < n→NoClk (f i)):NoClk (.agg n f):=fun h=>by
 cases h with | agg cs _ _ vs hn hv h=>exact .agg cs n f vs hn hv (fun i hi=>hf i hi (h i hi))
theorem noClk_pc (p:Pc):NoClk (pcH p):=noClk_agg (by exact j9 (noClk_imm _) (noClk_imm _) (noClk_imm _) (noClk_imm _) (noClk_imm _) (noClk_imm _) (noClk_imm _) (noClk_imm _) (noClk_imm _))
section
variable {P:Program} {ov:Nat→Option HV} {g:Nat} {d:Option Tmp} {ty:TypeId} {pos:String} {af:Array Edge} {gd:Option (Nat×Bool)}
def renE (E E':Env) (g:Nat) (l2 l3:Loc):Env:=⟨E'.F,fun k=>if k=9002 then some ⟨g,l2.A,l2.cap,l2.sz⟩ else if k=9003 then some ⟨g,l3.A,l3.cap,l3.sz⟩ else E'.L k,fun k=>E.G k∨k=g,E'.M⟩
theorem obj_row {w':World} {E E':Env} {K:Nat→Prop} {B g y n:Nat} {γ:Nat→Bag} {l2 l3 l:Loc} {l':Loc} (hl:l'=⟨g,l.A,l.cap,l.sz⟩) (o:ObjAt w' E' K B (rowO y n γ) l):ObjAt w' (renE E E' g l2 l3) K B (rowO g n γ) l':=by
 subst hl
 refine ⟨rfl,.inr rfl,o.sz,o.pos,?_⟩
 rcases o.at_ with h | ⟨b,cs,h1,h2,h3,h4,h5,h6,⟨vs,hvs⟩,h8,h9⟩ | ⟨b,ob,h1,h2,h3,h4⟩
 ·exact .inl h
 ·exact .inr (.inl ⟨b,cs,h1,h2,h3,h4,h5,h6,⟨vs,fun i j hi hj=>⟨(hvs i j hi hj).1,(hvs i j hi hj).2.1,noClk_imm _ (hvs i j hi hj).2.2⟩⟩,h8,h9⟩)
 ·exact absurd h3.fl (by simp)
theorem obj_net {w':World} {E E':Env} {K:Nat→Prop} {B g g1 y2 y3 n:Nat} {l2 l3 l:Loc} (hg1:E.G g1) (hl2:E'.L 9002=some l2) (e2:l2.g=y2) (hl3:E'.L 9003=some l3) (e3:l3.g=y3) (o:ObjAt w' E' K B (netO g1 (.os 9002 y2 0 n) (.os 9003 y3 0 n)) l):ObjAt w' (renE E E' g l2 l3) K B (netO g1 (.os 9002 g 0 n) (.os 9003 g 0 n)) l:=by
  have h9002:(renE E E' g l2 l3).L 9002=some ⟨g,l2.A,l2.cap,l2.sz⟩:=rfl
  have h9003:(renE E E' g l2 l3).L 9003=some ⟨g,l3.A,l3.cap,l3.sz⟩:=rfl
  refine ⟨o.g,.inl hg1,o.sz,o.pos,?_⟩
  rcases o.at_ with h | ⟨b,cs,h1,h2,h3,h4,h5,h6,⟨vs,hvs⟩,h8,h9⟩ | ⟨b,ob,h1,h2,h3,h4⟩
  · exact .inl h
  · refine .inr (.inl ⟨b,cs,h1,h2,h3,h4,h5,h6,⟨vs,fun i j hi hj=>⟨(hvs i j hi hj).1,(hvs i j hi hj).2.1,?_⟩⟩,h8,h9⟩)
    have hv:=(hvs i j hi hj).2.2
    match j,hj with
    | 0, _ =>
      have hv:Rep w' E' (vs i 0) (.os 9002 y2 0 n):=hv
      show Rep w' _ (vs i 0) (.os 9002 g 0 n)
      generalize vs i 0=u at hv
      cases hv with
      | os A n c _ _ _ _ hc hm hA h0 =>
        refine .os A n c 9002 g 0 (.inr rfl) hc hm (fun hn=>?_) (fun l hl _=>?_)
        · obtain ⟨b,k,q1,q2⟩:=hA hn
          refine ⟨b,k,q1,fun l hl _=>?_⟩
          rw [h9002] at hl;injection hl with hl;subst hl;exact q2 l2 hl2 e2
        · rw [h9002] at hl;injection hl with hl;subst hl;exact h0 l2 hl2 e2
    | 1, _ =>
      have hv:Rep w' E' (vs i 1) (.os 9003 y3 0 n):=hv
      show Rep w' _ (vs i 1) (.os 9003 g 0 n)
      generalize vs i 1=u at hv
      cases hv with
      | os A n c _ _ _ _ hc hm hA h0 =>
        refine .os A n c 9003 g 0 (.inr rfl) hc hm (fun hn=>?_) (fun l hl _=>?_)
        · obtain ⟨b,k,q1,q2⟩:=hA hn
          refine ⟨b,k,q1,fun l hl _=>?_⟩
          rw [h9003] at hl;injection hl with hl;subst hl;exact q2 l3 hl3 e3
        · rw [h9003] at hl;injection hl with hl;subst hl;exact h0 l3 hl3 e3
    | 2,_=>exact noClk_imm _ hv
    | 3,_=>exact noClk_imm _ hv
    | 4,_=>exact noClk_imm _ hv
    | 5,_=>exact noClk_imm _ hv
    | 6,_=>exact noClk_imm _ hv
    | 7,_=>exact noClk_imm _ hv
    | 8,_=>exact noClk_imm _ hv
    | 9,_=>exact noClk_imm _ hv
    | 10,_=>exact noClk_imm _ hv
  · exact absurd h3.fl (by simp)
theorem obj_ren {w w':World} {E E':Env} {K:Nat→Prop} {B B0 g:Nat} {o:HObj} {l2 l3 l l0:Loc} (hL:∀ k l,(renE E E' g l2 l3).L k=some l→E.G l.g→E'.L k=some l) (o0:ObjAt w E K B0 o l0) (oo:ObjAt w' E' K B o l):ObjAt w' (renE E E' g l2 l3) K B o l:=by
 refine ⟨oo.g,.inl o0.G,oo.sz,oo.pos,?_⟩
 rcases oo.at_ with h | ⟨b,cs,h1,h2,h3,h4,h5,h6,⟨vs,hvs⟩,h8,h9⟩ | h
 ·exact .inl h
 ·refine .inr (.inl ⟨b,cs,h1,h2,h3,h4,h5,h6,⟨vs,fun i j hi hj=>⟨(hvs i j hi hj).1,(hvs i j hi hj).2.1,?_⟩⟩,h8,h9⟩)
  rcases o0.at_ with q | ⟨_,_,_,_,_,_,_,_,⟨vs0,hvs0⟩,_,_⟩ | ⟨_,_,_,_,q,_⟩
  ·exact absurd hi (by omega)
  ·exact Rep.ren (E:=E) (E':=E') (E'':=renE E E' g l2 l3) (fun _ h=>h) hL (fun _ h=>Or.inl h) (hvs i j hi hj).2.2 (hvs0 i j hi hj).2.2
  ·exact absurd hi (by rw [q.n];omega)
 ·exact .inr (.inr h)
theorem hop_net {f:FuncId} {args:List Operand} {at_:Array TypeId} {xs:List HV} {r:HV} {g1 g2 g3 n n':Nat} {on on':List Bag} {β β':Nat→Bag}
    (hc:∀ c,HFun P f c xs (netL g1 g2 g3 n on β) (RetP (fun (y:Nat×Nat) _=>True) (fun _=>r) (fun y=>netL g1 y.1 y.2 n' on' β'))) (hr:NoClk r) (hx:ovAll ov args xs) :
    HOp P ⟨d,.call ⟨.value (.func f),args.toArray,at_⟩,ty,pos,af,gd⟩ ov g (netL g1 g2 g3 n on β) r (netL g1 g g n' on' β'):=by
  intro K w0 F0 E hh a w Q N rr ht hG hBd hpre hN
  obtain ⟨B,hB⟩:=hBd
  have hrep:=hx.rep (w:=w) (E:=E) (ρ:=a.eval) (fun x hv hx h=>ht x hv (by simp [Op.operands,Call.operands];exact .inr hx) h)
  unfold Oper.wp execOp
  have hargs:args.toArray.map a.eval=(args.map a.eval).toArray:=by simp
  simp only [resolve,Act.eval,Deferred.ofValue,invoke,Sem.run_bind,Sem.run_pure,Result.andThen_ok,Array.empty_append,Array.append_empty]
  rw [run_callFunc (hc 0).1]
  simp only [Oper.upon]
  have h:=(hc B).2 ⟨K,w0,F0,E,hh,w,netL g1 g2 g3 n on β⟩ (args.map a.eval) ⟨rr,fun id o ho=>hpre (id,o) (hget_mem ho)⟩ rfl hrep hB
  rw [←hargs] at h
  refine Calls.mono h ?_
  rintro e w' ⟨x,kp,c',E',⟨⟨y2,y3⟩,-,rfl,rfl⟩,e',r',hG',hGk,hv⟩
  cases e with
  | returned v =>
    obtain ⟨l1,hl1,o1⟩:=r'.obj 9001 _ rfl
    obtain ⟨l2,hl2,o2⟩:=r'.obj 9002 _ rfl
    obtain ⟨l3,hl3,o3⟩:=r'.obj 9003 _ rfl
    obtain ⟨l0,hl0,o0⟩:=rr.obj 9001 _ (hpre (9001,_) (List.mem_cons_self ..))
    have hL:∀ k l,(renE E E' g l2 l3).L k=some l→E.G l.g→E'.L k=some l:=by
      intro k l hl hg
      unfold renE at hl
      simp only at hl
      split at hl
      · injection hl with hl;subst hl;exact absurd hg hG
      · split at hl
        · injection hl with hl;subst hl;exact absurd hg hG
        · exact hl
    have hRL:∀ k,k≠9002→k≠9003→(renE E E' g l2 l3).L k=E'.L k:=fun k h2 h3=>by
      unfold renE;simp only;rw [if_neg h2,if_neg h3]
    have hext:Ext w E w' (renE E E' g l2 l3):=⟨e'.sz,e'.F,fun k hk=>.inl hk,fun k l hl hg=>e'.L k l (hL k l hl hg) hg,e'.M⟩
    have hA:∀ k o l,hupd hh (netL g1 g g n' on' β') k=some o→(renE E E' g l2 l3).L k=some l→∃ o' l',hupd hh (netL g1 y2 y3 n' on' β') k=some o'∧E'.L k=some l'∧l'.A=l.A:=by
      intro k o l ho hl
      by_cases h2:k=9002
      · subst h2;refine ⟨_,_,rfl,hl2,?_⟩
        unfold renE at hl;simp only [if_pos] at hl;injection hl with hl;subst hl;rfl
      · by_cases h3:k=9003
        · subst h3;refine ⟨_,_,rfl,hl3,?_⟩
          unfold renE at hl;simp at hl;subst hl;rfl
        · rw [hRL k h2 h3] at hl
          by_cases h1:k=9001
          · subst h1;exact ⟨_,_,rfl,hl,rfl⟩
          · refine ⟨o,l,?_,hl,rfl⟩
            rw [←ho]
            simp [hupd,hset,h1,h2,h3]
    refine hN v w' (renE E E' g l2 l3) hext ⟨r'.os,r'.tape,r'.output,r'.size,r'.keep,r'.frz,r'.fnew,r'.klib,r'.lib,r'.bks,?_,?_⟩ (fun g' hg'=>hg'.imp id fun e=>⟨by simp,e⟩) (hr hv)
    · intro k o ho
      by_cases h2:k=9002
      · subst h2
        have ho:rowO g n' (onF on')=o:=Option.some.inj ho
        subst ho
        exact ⟨_,rfl,obj_row rfl o2⟩
      · by_cases h3:k=9003
        · subst h3
          have ho:rowO g n' β'=o:=Option.some.inj ho
          subst ho
          exact ⟨_,rfl,obj_row rfl o3⟩
        · by_cases h1:k=9001
          · subst h1
            have ho:netO g1 (.os 9002 g 0 n') (.os 9003 g 0 n')=o:=Option.some.inj ho
            subst ho
            exact ⟨l1,hl1,obj_net o0.G hl2 o2.g hl3 o3.g o1⟩
          · have ho:hh k=some o:=by rw [←ho];simp [hupd,hset,h1,h2,h3]
            obtain ⟨l,hl,oo⟩:=r'.obj k o (by rw [←ho];simp [hupd,hset,h1,h2,h3])
            obtain ⟨l00,_,ob⟩:=rr.obj k o ho
            exact ⟨l,by rw [hRL k h2 h3];exact hl,obj_ren hL ob oo⟩
    · intro k k' o o' l l' b ho ho' hl hl' hb hb'
      obtain ⟨p,q,h1,h2,h3⟩:=hA k o l ho hl
      obtain ⟨p',q',h1',h2',h3'⟩:=hA k' o' l' ho' hl'
      exact r'.inj k k' p p' q q' b h1 h1' h2 h2' (h3.trans hb) (h3'.trans hb')
  | _=>exact hv.elim
end
def stC (m:List UInt8→Bag) (N:Nat) (a:Ly) (t:T):Ly:=⟨a.on++(lay m t N).on,a.lk++(lay m t N).lk,⟨bun a.pc.first (lay m t N).pc.first,bun a.pc.ends (lay m t N).pc.ends,a.pc.empty||(lay m t N).pc.empty⟩⟩
def stR (m:List UInt8→Bag) (N:Nat) (a:Ly) (t:T):Ly:=⟨a.on++(lay m t N).on,a.lk++(lay m t N).lk++[(a.pc.ends,(lay m t N).pc.first)],a.pc.join (lay m t N).pc⟩
theorem layC_snoc (m:List UInt8→Bag):∀ (ts:List T) (N:Nat) (a:Ly) (t:T),layC m (ts++[t]) N a=stC m (N+T.wL ts) (layC m ts N a) t
 | [],N,a,t=>by simp [layC,T.wL,stC]
 | x::ts,N,a,t=>by simp only [List.cons_append,layC];rw [layC_snoc m ts];simp only [T.wL,Nat.add_assoc]
theorem layR_snoc (m:List UInt8→Bag):∀ (ts:List T) (N:Nat) (a:Ly) (t:T),layR m (ts++[t]) N a=stR m (N+T.wL ts) (layR m ts N a) t
 | [],N,a,t=>by simp [layR,T.wL,stR]
 | x::ts,N,a,t=>by simp only [List.cons_append,layR];rw [layR_snoc m ts];simp only [T.wL,Nat.add_assoc]
theorem wL_le:∀ (ts:List T) (i:Nat),T.wL (ts.take i)≤T.wL ts
 | [],i=>by simp [T.wL]
 | t::ts,0=>by simp [T.wL]
 | t::ts,i+1=>by have:=wL_le ts i;simp only [List.take_succ_cons,T.wL];omega
theorem layC_pre {m:List UInt8→Bag} (hm:∀ s,(m s).ok) (ts:List T) (i N:Nat) (h:N+T.wL ts≤256):(layC m (ts.take i) N ⟨[],[],default⟩).Ok N (T.wL (ts.take i)):=by
 have hle:=wL_le ts i
 have:=layC_ok hm (ts.take i) N N ⟨[],[],default⟩ (by omega) (Nat.le_refl _) (by rw [Nat.sub_self];exact ⟨rfl,(fun b hb=>by simp at hb),(fun q hq=>by simp at hq),default_ok,⟨inB_zero _ _,inB_zero _ _⟩⟩)
 rwa [show N+T.wL (ts.take i) - N=T.wL (ts.take i) by omega] at this
theorem layR_pre {m:List UInt8→Bag} (hm:∀ s,(m s).ok) (ts:List T) (i N:Nat) (h:N+T.wL ts≤256):(layR m (ts.take i) N ⟨[],[],Pc.nil⟩).Ok N (T.wL (ts.take i)):=by
 have hle:=wL_le ts i
 have:=layR_ok hm (ts.take i) N N ⟨[],[],Pc.nil⟩ (by omega) (Nat.le_refl _) (by rw [Nat.sub_self];exact ⟨rfl,(fun b hb=>by simp at hb),(fun q hq=>by simp at hq),Pc.nil_ok,Pc.inB_nil _ _⟩)
 rwa [show N+T.wL (ts.take i) - N=T.wL (ts.take i) by omega] at this
theorem w_choice {t:T} (h:t.kind=3) (hok:t.ok=true):∃ ts,t=.many 3 ts:=by
 cases t with
 | name s=>simp [T.kind] at h
 | times lo hi t=>simp [T.kind] at h
 | many k ts=>simp [T.kind] at h;subst h;exact ⟨ts,rfl⟩
theorem w_row {t:T} (h1:t.kind≠1) (h4:t.kind≠4) (h3:t.kind≠3) (hok:t.ok=true):∃ k ts,t=.many k ts∧k≠3:=by
 cases t with
 | name s=>simp [T.kind] at h1
 | times lo hi t=>simp [T.kind] at h4
 | many k ts=>exact ⟨k,ts,rfl,h3⟩
theorem w_nm {t:T} (h:t.kind=1) (hok:t.ok=true):∃ s,t=.name s:=by
 cases t with
 | name s=>exact ⟨s,rfl⟩
 | times lo hi t=>simp [T.kind] at h
 | many k ts=>simp [T.kind] at h;subst h;simp [T.ok] at hok
theorem osub_net {g1:Nat} {f:Nat→Nat→HV} {a b:HV} (h:∀ j,j < 11→f 0 j=netF a b Bag.zero Bag.zero false 0 j):OSub ⟨g1,1,11,71,0,f⟩ (netO g1 a b):=OSub.of fun i j hi hj=>by
 obtain rfl:i=0:=by omega
 rw [h j hj];exact .refl _
theorem cat_row {n:Nat} {γ γ':Nat→Bag} {L:List HV} (h1:∀ i,i < n→γ i=γ' i) (h2:∀ j,j < 4→bsf L 0 j=bagF (γ' n) j):∀ i j,i < n+1→j < 4→cat n (rowF γ) (bsf L) i j=bagF (γ' i) j:=fun i j hi hj=>by
 unfold cat
 by_cases h:i < n
 ·have e:Nat.blt i n=true:=by simpa [Nat.blt_eq] using h
  rw [e];show bagF (γ i) j=_;rw [h1 i h]
 ·obtain rfl:i=n:=by omega
  have e:Nat.blt i i=false:=by rw [Bool.eq_false_iff];intro h';simp [Nat.blt_eq] at h'
  rw [e];show bsf L (i - i) j=_;rw [Nat.sub_self];exact h2 j hj
theorem onF_snoc {on:List Bag} {n:Nat} (hn:on.length=n) (x:Bag):(∀ i,i < n→onF on i=onF (on++[x]) i)∧onF (on++[x]) n=x:=by
 subst hn
 exact ⟨fun i hi=>(getD_app (d:=Bag.zero) (k:=[x]) hi).symm,getD_snoc _ _ _⟩
theorem lay_one (mf:FuncId) (mk:Nat) (mcaps:Nat→HV) (mcs:List HV) (hmk:mcs.length=mk) (hmi:∀ i,i < mk→mcs[i]?=some (mcaps i)) (hmz:FzAll [] mcs mcs) (hmf:∀ sh,Fz sh (.fn (.func mf) mk mcaps) (.fn (.func mf) mk mcaps)) (m:List UInt8→Bag) (hm:∀ s,nameV s=true→HPure Tryz.prog mf ([strV s]++mcs) (bagH (m s))) (hmo:∀ s,(m s).ok)
  (e:List Pt) (he:e.length≤100000) (b:Nat) (t:T) (hok:t.ok=true) (hat:AtP e b (T.flat b t)) (hkl:t.kidsT.length≤100000)
  (ih:∀ i,i < t.kidsT.length→LayN (.fn (.func mf) mk mcaps) m e (b+T.sizeL (t.kidsT.take i)) (t.kidsT.getD i default)):LayN (.fn (.func mf) mk mcaps) m e b t:=by
 intro c g1 g2 g3 N0 on β hon hw hβ hz
 have htop:=at_top hat
 have hps:=t.size_pos
 have hkid:=top_kids b t
 have hrl:=rootsL_len t.kidsT b
 generalize htp:t.top b=p at htop hkid
 have hpk:p.kind=t.kind:=by rw [←htp];exact top_kind b t
 let k0:=c
 refine hfun_of Tryz.func37 rfl kr _ _ _ _ rfl 116 rfl rfl (fun X ok hX=>?_)
 refine srg fun N h1=>?_
 refine hm_1 4 (hop_box (id:=9011) (sz:=1) rfl rfl rfl (by decide) (by decide)) rfl rfl pre0 rfl rfl (c':=c+1) rfl ?_
 refine hm_1 5 (hop_box (id:=5) (sz:=1) rfl rfl rfl (nb rfl) (nb rfl)) rfl rfl pre0 rfl rfl (c':=c+2) rfl ?_
 refine hm_1 7 (hop_box (id:=7) (sz:=1) rfl rfl rfl (nb rfl) (nb rfl)) rfl rfl pre0 rfl rfl (c':=c+3) rfl ?_
 refine hm_1 8 (hop_alloc (id:=8) (sz:=9) zc_74 rfl rfl (nb rfl) (nb rfl)) rfl rfl pre0 rfl rfl (c':=c+4) rfl ?_
 refine snl h1<|srg fun N h2=>?_
 refine sl ty_24 ?_
 refine sm ?_
 refine s0 (hix el_24) ?_
 refine s0 (HOp.val (v':=ptH p) (hop_load_fp ty_29 rfl (nb rfl) (fun h=>(by cases h))) (pt_at (by omega) htop.1)) ?_
 refine hm_1 9 (hop_alloc (id:=9) (sz:=5) zc_29 rfl rfl (nb rfl) (nb rfl)) rfl rfl pre0 rfl rfl (c':=c+5) rfl ?_
 refine sw (c+6) ty_29 ?_
 refine snl h2<|hw_seq fun Nh3 h3=>srg fun N h4=>?_
 refine sf fd_29_0 ?_
 refine sl ty_3 ?_
 refine snl h4<|hw_block<|srg fun N h5=>?_
 refine s0 hqi ?_
 refine sa<|snl h5 ?_
 refine wc (fun hc0=>?_) (fun hc0=>?_)
 ·have hr0:=hc0;(try simp only [hcs,Int.reduceToNat] at hc0)
  obtain ⟨s,hts⟩:=w_nm (by rw [←hpk];exact hc0) hok;have hpn:p.name=s:=(by rw [←htp,hts];rfl);have hnv:nameV p.name=true:=(by rw [hpn];rw [hts] at hok;simpa [T.ok] using hok);have hl1:lay m t N0=⟨[m s],[],⟨single N0,single N0,false⟩⟩:=(by rw [hts];simp [lay]);have hw1:t.w=1:=(by rw [hts];rfl)
  refine srg fun N h6=>?_
  refine sl ty_36 ?_
  refine sn ?_
  refine sf fd_71_0 ?_
  refine sl ty_69 ?_
  refine s0 (hop_len_os (T:=69) rfl (elOf_spec el_69).1 rfl) ?_
  refine hm_1 31 (hop_buildSlice (id:=31) (hs:=[_]) ei_25 (nb rfl) rfl (nb rfl) ⟨rfl,rfl,rfl,rfl,trivial⟩) rfl rfl pre0 rfl rfl (c':=c+7) rfl ?_
  refine hm_ 32 (hop_call (xs:=[_]) [(31,_)] (of_h [(N0:Int)] (by simp)) ⟨rfl,trivial⟩ ⟨(show Fz _ _ (iListV [(N0:Int)]) from fz_row (l:=[(N0:Int)]) (enc:=fun x _=>intV x) (d:=0) (List.mem_cons_self ..) rfl rfl (Nat.le_refl _) (fun i j hi hj=>by obtain rfl:i=0:=(by simpa using hi);exact .imm _)),trivial⟩ rfl) rfl rfl (preC rfl pre0) rfl rfl (c':=c+8) rfl ?_
  refine hm_1 10 (hop_alloc (id:=10) (sz:=4) zc_33 rfl rfl (nb rfl) (nb rfl)) rfl rfl pre0 rfl rfl (c':=c+9) rfl ?_
  refine sw (c+10) ty_33 ?_
  refine snl h6<|hw_seq fun Nh7 h7=>hd_start ?_
  refine dl 1 ty_36 ?_
  refine dl 2 ty_36 ?_
  refine dk 3 ?_
  refine df 4 fd_71_0 ?_
  refine dl 5 ty_69 ?_
  refine dl 6 ty_35 ?_
  refine df 7 fd_29_3 ?_
  refine dl 8 ty_9 ?_
  refine d0 9 (hop_callv0 (xs:=[_]) (cs:=mcs) (hm p.name hnv) rfl hmk hmi ⟨rfl,trivial⟩ ⟨(show Fz [] (strV p.name) (strV p.name) from Frz.fz),hmz⟩) ?_
  refine hd_1 42 (hop_buildSlice (id:=42) (hs:=[_]) ei_69 (nb rfl) rfl (nb rfl) ⟨rfl,rfl,rfl,rfl,trivial⟩) rfl rfl pre0 rfl rfl (k':=10) rfl ?_
  refine hd_1 43 (hol_append ei_69 (nb rfl) rfl om (nb rfl) (srl_os0 rfl (nb rfl)) om rfl) rfl rfl (preC rfl (pre1 rfl)) rfl rfl (k':=11) rfl ?_
  refine dk 12 ?_
  refine df 13 fd_71_0 ?_
  refine hd_s1 (hol_store ty_69 rfl rfl rfl rfl (nb rfl) (nb rfl) (nb rfl)) rfl rfl (pre1 rfl) (k':=14) rfl ?_
  refine hd_nil kr kr (c':=c+24) rfl ?_
  refine h7 _<|hw_seq fun Nh8 h8=>hd_start ?_
  refine dl 1 ty_36 ?_
  refine dl 2 ty_36 ?_
  refine dk 3 ?_
  refine df 4 fd_71_1 ?_
  refine dl 5 ty_69 ?_
  refine d0 6 (hop_build (hs:=[]) st_33 rfl rfl trivial) ?_
  refine hd_1 52 (hop_buildSlice (id:=52) (hs:=[_]) ei_69 (nb rfl) rfl (nb rfl) ⟨rfl,rfl,rfl,rfl,trivial⟩) rfl rfl pre0 rfl rfl (k':=7) rfl ?_
  refine hd_1 53 (hol_append ei_69 (nb rfl) rfl om (nb rfl) (srl_os0 rfl (nb rfl)) om rfl) rfl rfl (preC rfl (pre1 rfl)) rfl rfl (k':=8) rfl ?_
  refine dk 9 ?_
  refine df 10 fd_71_1 ?_
  refine hd_s1 (hol_store ty_69 rfl rfl rfl rfl (nb rfl) (nb rfl) (nb rfl)) rfl rfl (pre1 rfl) (k':=11) rfl ?_
  refine hd_nil kr kr (c':=c+35) rfl ?_
  refine h8 _<|hw_seq fun Nh9 h9=>?_
  have hsn:=onF_snoc hon (m p.name);refine (hsub_ob 9001 (netO g1 (.os 9002 (c+10+10) 0 (N0+1)) (.os 9003 (c+24+7) 0 (N0+1))) rfl (by exact osub_net (fun j hj=>by match j,hj with | 0,_=>rfl | 1,_=>rfl | 2,_=>rfl | 3,_=>rfl | 4,_=>rfl | 5,_=>rfl | 6,_=>rfl | 7,_=>rfl | 8,_=>rfl | 9,_=>rfl | 10,_=>rfl))).wp ?_;refine (hsub_ob 9002 (rowO (c+10+10) (N0+1) (onF (on++[m p.name]))) rfl (by exact osub_row (cat_row hsn.1 (fun j hj=>by rw [hsn.2];rfl)))).wp ?_;refine (hsub_ob 9003 (rowO (c+24+7) (N0+1) β) rfl (by exact osub_row (cat_row (fun _ _=>rfl) (fun j hj=>by rw [hz N0 (Nat.le_refl _) om];exact j4 (f:=bsf _ 0) (g:=bagF Bag.zero) rfl rfl rfl rfl j hj)))).wp ?_
  refine hw_region ?_
  refine sl ty_33 ?_
  refine sl ty_33 ?_
  refine s0 (hop_build (hs:=[(0,4,_),(4,4,_)]) st_74 rfl rfl ⟨rfl,rfl,rfl,rfl,rfl,⟨rfl,rfl,rfl,rfl,rfl,trivial⟩⟩) ?_
  refine sw (c+36) ty_74 ?_
  refine snl h9<|hw_ret<|hq_block_ret<|hq_then_ret ?_
  refine hf_retR1 ok hX RetS.one rfl (rvl_cell rfl rfl ty_74 rqc rfl rfl) [] rfl pre0 ((c+10+10,c+24+7)) (trivial) (by rfl) (by rfl) ((by rw [hl1];exact kz_pc (by exact j9 rfl rfl rfl rfl rfl rfl rfl rfl rfl))) ?_
  exact ⟨⟨_,rfl,(by rw [hw1];exact okz_net rfl rfl rfl rfl)⟩,⟨⟨_,rfl,(by rw [hw1,hl1,←hpn];exact okz_row (fun _ _=>rfl))⟩,⟨⟨_,rfl,(by rw [hw1,hl1];exact okz_row (fun _ _=>rfl))⟩,trivial⟩⟩⟩
 have hr0:=hc0;(try simp only [hcs,Int.reduceToNat] at hc0)
 refine srg fun N h10=>?_
 refine s0 hqi ?_
 refine sa<|snl h10 ?_
 refine wc (fun hc1=>?_) (fun hc1=>?_)
 ·have hr1:=hc1;(try simp only [hcs,Int.reduceToNat] at hc1)
  have hkd4:t.kind=4:=(by rw [←hpk];exact hc1);obtain ⟨lo,hi,u,htu⟩:=w_times hkd4 hok;have hct:=w_count b hkd4 hok;rw [htp] at hct;have hpl:p.low=lo∧p.high=hi∧p.kids=[((b+u.size - 1:Nat):Int)]:=(by have:=u.size_pos;rw [←htp,htu];refine ⟨rfl,rfl,?_⟩;show [((b+u.size:Nat):Int) - 1]=_;congr 1;omega);have hiu:LayN (.fn (.func mf) mk mcaps) m e b u:=(by have h:=ih 0 (by rw [htu];exact Nat.zero_lt_one);rw [htu] at h;simpa [T.kidsT,T.sizeL] using h);have htw:t.w=manyOf p.low p.high * u.w:=(by rw [hct.1,htu,Nat.mul_comm];simp [T.kidsT,T.wL]);have hll:lay m t N0=layT p.low p.high (fun k=>lay m u (N0+k * u.w)):=(by rw [htu,hpl.1,hpl.2.1];simp [lay]);have hkb:∀ k,k < manyOf p.low p.high→N0+k * u.w+u.w≤256:=(fun k hk=>by have h:=Nat.mul_le_mul_right u.w hk;rw [Nat.succ_mul] at h;omega)
  refine srg fun N h11=>?_
  refine sl ty_36 ?_
  refine sl ty_29 ?_
  refine s0 (hop_makeFunc (hs:=[_,_,_,_]) ⟨rfl,⟨rfl,⟨rfl,⟨rfl,trivial⟩⟩⟩⟩) ?_
  refine (hsub_shrK 63 [(5,_),(9,_),(7,_)] [(9011,_)] rfl (preC rfl (preC rfl (preC rfl pre0))) (preC rfl pre0) rfl ((.fn _ _ _ (fun i=>[HV.pt 9011 k0 0 0,.fp 1 (fun _=>ptsV e),.fp 5 (ptF p),.fp 1 (fun _=>(.fn (.func mf) mk mcaps))].getD i default) (fun i hi=>by match i,hi with | 0,_=>exact .pt _ _ _ _ _ rfl rfl | 1,_=>exact .fz _ _ (.pt 5 _ 0 0 1 _ _ (.head _) rfl (Nat.lt_succ_self 0) (Nat.le_refl _) (fun j hj=>show Fz _ (ptsV e) (ptsV e) from Frz.fz)) | 2,_=>exact .fz _ _ (.pt 9 _ 0 0 5 _ _ (.tail _ (.head _)) rfl (Nat.lt_succ_self 0) (Nat.le_refl _) (fun j hj=>by show Fz _ (ptF p (0+j)) (ptF p j);rw [Nat.zero_add];exact pt_fz _ _)) | 3,_=>exact .fz _ _ (.pt 7 _ 0 0 1 _ _ (.tail _ (.tail _ (.head _))) rfl (Nat.lt_succ_self 0) (Nat.le_refl _) (fun j hj=>hmf _)))))).seq ?_
  refine hf_callR 64 (xs:=[_,_,_]) (pre:=[(9001,_),(9002,_),(9003,_),(9011,_)]) (timesN_h _ g1 g2 g3 k0 N0 u.w on β hon hβ hz p (fun k=>lay m u (N0+k * u.w)) (.fp 1 (fun _=>ptsV e)) (.fp 5 (ptF p)) (.fp 1 (fun _=>(.fn (.func mf) mk mcaps))) hct.2.1 hct.2.2.1 hct.2.2.2.1 hct.2.2.2.2 (fun k hk=>lay_ok hmo u _ (hkb k hk)) (by rw [←htw];exact hw) (fun k hk M c g2 g3 on β hM hon hβ hz=>by subst hM;exact lay1_h (.fn (.func mf) mk mcaps) m e he b u hmf hiu p hpl.2.2 c g1 g2 g3 k0 _ on β hon (hkb k hk) hβ hz)) ⟨rfl,⟨rfl,⟨rfl,trivial⟩⟩⟩ (preC rfl (preC rfl (preC rfl (preC rfl pre0)))) rfl rfl (fun x1 c1 hyy=>?_)
  obtain ⟨y2,y3⟩:=x1
  (try dsimp only)
  refine sw (c1+1) ty_74 ?_
  refine snl h11<|hw_ret<|hq_block_ret<|hq_then_ret ?_
  refine hf_retR1 ok hX RetS.one rfl (rvl_cell rfl rfl ty_74 rqc rfl rfl) [] rfl pre0 ((y2,y3)) (trivial) (by rfl) (by rfl) ((by rw [hll];exact kz_pc (by exact j9 rfl rfl rfl rfl rfl rfl rfl rfl rfl))) ?_
  exact ⟨⟨_,rfl,(by rw [htw];exact okz_net rfl rfl rfl rfl)⟩,⟨⟨_,rfl,(by rw [htw,hll];exact okz_row (fun _ _=>rfl))⟩,⟨⟨_,rfl,(by rw [htw,hll];exact okz_row (fun _ _=>rfl))⟩,trivial⟩⟩⟩
 have hr1:=hc1;(try simp only [hcs,Int.reduceToNat] at hc1)
 refine srg fun N h12=>?_
 refine s0 hqi ?_
 refine sa<|snl h12 ?_
 refine wc (fun hc2=>?_) (fun hc2=>?_)
 ·have hr2:=hc2;(try simp only [hcs,Int.reduceToNat] at hc2)
  let k1:=c+6;have hkd3:t.kind=3:=(by rw [←hpk];exact hc2);have hwm:=w_many (t:=t) (by rw [hkd3];decide) (by rw [hkd3];decide);have hll:lay m t N0=layC m t.kidsT N0 ⟨[],[],default⟩:=(by obtain ⟨ts,hts⟩:=w_choice hkd3 hok;rw [hts];simp [lay,T.kidsT])
  refine srg fun N h13=>?_
  refine hm_1 11 (hop_alloc (id:=11) (sz:=9) zc_74 rfl rfl (nb rfl) (nb rfl)) rfl rfl pre0 rfl rfl (c':=c+7) rfl ?_
  refine snl h13<|hw_seq fun Nh14 h14=>srg fun N h15=>?_
  refine sf fd_29_4 ?_
  refine sl ty_25 ?_
  refine s0 (hnl el_25) ?_
  refine sm<|snl h15<|hw_block ?_
  refine hw_loopc (α:=Nat×Nat×List Bag×(Nat→Bag)×Pc×Nat×Nat) (fun x c=>⟨116,[(4,.v (.pt 9011 k0 0 0)),(5,.v (.pt 5 (k0+1) 0 0)),(7,.v (.pt 7 (k0+2) 0 0)),(8,.v (.pt 8 (k0+3) 0 0)),(11,.v (.pt 11 k1 0 0)),(68,.v (kidsV p.kids)),(69,.v (intV p.kids.length)),(70,.v (intV (x.1:Int)))],[(9001,netO g1 (.os 9002 x.2.2.2.2.2.1 0 x.2.1) (.os 9003 x.2.2.2.2.2.2 0 x.2.1)),(9002,rowO x.2.2.2.2.2.1 x.2.1 (onF x.2.2.1)),(9003,rowO x.2.2.2.2.2.2 x.2.1 x.2.2.2.1),(9011,nbO k0 g1),(5,⟨k0+1,1,1,24,0,fun _ _=>ptsV e⟩),(7,⟨k0+2,1,1,35,0,fun _ _=>(.fn (.func mf) mk mcaps)⟩),(8,pcO (k0+3) default),(11,pcO k1 x.2.2.2.2.1)],c⟩) (fun x=>x.1≤t.kidsT.length∧x.2.1=N0+T.wL (t.kidsT.take x.1)∧x.2.2.1=on++(layC m (t.kidsT.take x.1) N0 ⟨[],[],default⟩).on∧x.2.2.2.1=links β (layC m (t.kidsT.take x.1) N0 ⟨[],[],default⟩).lk∧x.2.2.2.2.1=(layC m (t.kidsT.take x.1) N0 ⟨[],[],default⟩).pc) (fun x=>t.kidsT.length - x.1) ((0,N0,on,β,default,g2,g3)) (by exact ⟨Nat.zero_le _,by simp [T.wL],by simp [layC],by simp [layC,links],by simp [layC]⟩) (hsub_of rfl (Nat.le_refl _) tsa (hsr rfl (hsr rfl (hsr rfl (hsr rfl (hsr rfl (hsr rfl (HpSub.cons rfl (osub_pc (by exact j9 rfl rfl rfl rfl rfl rfl rfl rfl rfl)) (HpSub.cons rfl (osub_pc (by exact j9 rfl rfl rfl rfl rfl rfl rfl rfl rfl)) HpSub.nil))))))))) (fun x c hx NhL16 hL16=>?_)
  revert hx hL16;obtain ⟨ii,MM,on1,be1,ou1,y2,y3⟩:=x;intro hx hL16;dsimp only at hx hL16 ⊢
  obtain ⟨hi,hMM,hon1,hbe1,hou1⟩:=hx
  have hA:=layC_pre hmo t.kidsT ii N0 om
  refine srg fun N h17=>?_
  refine s0 hli ?_
  refine snl h17<|hw_seq fun Nh18 h18=>?_
  refine wc (fun hc3=>?_) (fun hc3=>?_)
  ·have hr3:=hc3;(try simp only [hcs,Int.reduceToNat] at hc3)
   have him:ii < t.kidsT.length:=(by have h:=hr3;simp [hkid,hrl] at h;omega);have hka:=kids_at' hat him;have hkt:=at_top hka;have hks:=(t.kidsT.getD ii default).size_pos;have hroot:=roots_get t.kidsT b ii him;have hwt:=wL_take t.kidsT ii him;have hwl:=wL_le t.kidsT (ii+1);have hxw:MM+(t.kidsT.getD ii default).w≤256:=om;have hly:=lay_ok hmo (t.kidsT.getD ii default) MM hxw;have hlen1:on1.length=MM:=(by rw [hon1,List.length_append,hA.len,hon,hMM]);have hbok:∀ q,(be1 q).ok:=(by rw [hbe1];exact links_ok hA.lk hβ);have hbz:∀ q,MM≤q→q < 256→be1 q=Bag.zero:=(by rw [hbe1,hMM];exact links_zero hA.lk (fun q hq hq2=>hz q om hq2));have hou2:ou1.ok:=(by rw [hou1];exact hA.pc);have hino:InB N0 (MM+(t.kidsT.getD ii default).w) ou1.ends:=(by rw [hou1,hMM];exact hA.inB.2.mono (Nat.le_refl _) om);have hsn:=layC_snoc m (t.kidsT.take ii) N0 ⟨[],[],default⟩ (t.kidsT.getD ii default);rw [←take_snoc him] at hsn
   refine hw_skip<|h18 _<|hw_seq fun Nh19 h19=>hw_block<|srg fun N h20=>?_
   refine s0 (hix el_25) ?_
   refine s0 (HOp.val (v':=intV ((b+T.sizeL (t.kidsT.take ii)+(t.kidsT.getD ii default).size - 1:Nat):Int)) (hop_load_fp ty_3 rfl (nb rfl) (fun h=>(by rfl))) (by exact kids_at (i:=ii) (by omega) (by rw [hkid,hroot];unfold T.root;omega))) ?_
   refine sa<|snl h20<|srg fun N h21=>?_
   refine sl ty_36 ?_
   refine sl ty_24 ?_
   refine sm ?_
   refine sl ty_35 ?_
   refine hf_callR 78 (xs:=[_,_,_,_]) (pre:=[(9001,_),(9002,_),(9003,_)]) (ih ii him _ g1 y2 y3 MM on1 be1 hlen1 hxw hbok hbz) ⟨rfl,⟨rfl,⟨rfl,⟨rfl,trivial⟩⟩⟩⟩ (preC rfl (preC rfl (preC rfl pre0))) rfl rfl (fun x2 c2 hzz=>?_)
   obtain ⟨z2,z3⟩:=x2
   (try dsimp only)
   refine hm_1 14 (hop_alloc (id:=14) (sz:=9) zc_74 rfl rfl (nb rfl) (nb rfl)) rfl rfl pre0 rfl rfl (c':=c2+1) rfl ?_
   refine sw (c2+2) ty_74 ?_
   refine snl h21<|hd_start ?_
   refine df 1 fd_74_0 ?_
   refine dl 2 ty_33 ?_
   refine df 3 fd_74_0 ?_
   refine dl 4 ty_33 ?_
   refine d0 5 (hop_call0 (xs:=[_,_]) (or_h ou1.first (lay m (t.kidsT.getD ii default) MM).pc.first hou2.1 hly.pc.1) ⟨rfl,⟨rfl,trivial⟩⟩ ⟨(fz_bg (by exact j4 rfl rfl rfl rfl)),⟨(fz_bg (by exact j4 rfl rfl rfl rfl)),trivial⟩⟩) ?_
   refine df 6 fd_74_1 ?_
   refine dl 7 ty_33 ?_
   refine df 8 fd_74_1 ?_
   refine dl 9 ty_33 ?_
   refine d0 10 (hop_call0 (xs:=[_,_]) (or_h ou1.ends (lay m (t.kidsT.getD ii default) MM).pc.ends hou2.2 hly.pc.2) ⟨rfl,⟨rfl,trivial⟩⟩ ⟨(fz_bg (by exact j4 rfl rfl rfl rfl)),⟨(fz_bg (by exact j4 rfl rfl rfl rfl)),trivial⟩⟩) ?_
   refine df 11 fd_74_2 ?_
   refine dl 12 ty_4 ?_
   refine dm 13 ?_
   refine hd_g 92 12 91 false _ (fun hb=>hop_fa fd_74_2 rfl) rfl rfl rfl rfl pre0 rfl rfl rfl (k':=14) rfl ?_
   refine hd_g 93 12 91 false _ (fun hb=>hol_load ty_4 rfl (nb rfl) (nb rfl) rq) rfl rfl rfl rfl (pre1 rfl) rfl rfl rfl (k':=15) rfl ?_
   refine hd_p 94 (hstep_or _ _ rfl rfl rfl) rfl rfl rfl (k':=16) rfl ?_
   refine d0 17 (hop_build (hs:=[(0,4,_),(4,4,_),(8,1,_)]) st_74 rfl rfl ⟨rfl,rfl,rfl,rfl,rfl,⟨rfl,rfl,rfl,rfl,rfl,⟨rfl,rfl,rfl,rfl,rfl,trivial⟩⟩⟩) ?_
   refine hd_s1 (hol_storeW ty_74 rfl rfl rfl rfl) rfl rfl (pre1 rfl) (k':=18) rfl ?_
   refine hd_nil kr kr (c':=c2+20) rfl ?_
   refine hq_block<|h19 _<|hw_region ?_
   refine s0 hai ?_
   refine sm<|hseq_nil ?_
   exact hL16 ((ii+1,MM+(t.kidsT.getD ii default).w,on1++(lay m (t.kidsT.getD ii default) MM).on,links be1 (lay m (t.kidsT.getD ii default) MM).lk,⟨bun ou1.first (lay m (t.kidsT.getD ii default) MM).pc.first,bun ou1.ends (lay m (t.kidsT.getD ii default) MM).pc.ends,ou1.empty||(lay m (t.kidsT.getD ii default) MM).pc.empty⟩,z2,z3)) _ _ (by (try dsimp only);exact ⟨by omega,by rw [hMM,hwt,Nat.add_assoc],by rw [hsn,←hMM,hon1];simp only [stC,List.append_assoc],by rw [hsn,←hMM,hbe1];simp only [stC];rw [links_app],by rw [hsn,←hMM,hou1];rfl⟩) (by (try dsimp only);omega) (hsub_of rfl (Nat.le_refl _) tsa (hsr rfl (hsr rfl (hsr rfl (hsr rfl (hsr rfl (hsr rfl (hsr rfl (HpSub.cons rfl (osub_pc (by exact j9 rfl rfl rfl rfl rfl rfl rfl rfl rfl)) HpSub.nil)))))))))
  have hr3:=hc3;(try simp only [hcs,Int.reduceToNat] at hc3)
  have hit:ii=t.kidsT.length:=(by have h:=hr3;simp [hkid,hrl] at h;omega);rw [hit,List.take_length] at hA hMM hon1 hbe1 hou1
  refine hw_exit ?_
  refine hq_then_exit<|hq_then_exit<|hq_block_here<|h14 _<|srg fun N h22=>?_
  refine sl ty_74 ?_
  refine sw (c+1) ty_74 ?_
  refine snl h22<|hw_ret<|hq_block_ret<|hq_then_ret ?_
  refine hf_retR1 ok hX RetS.one rfl (rvl_cell rfl rfl ty_74 rqc rfl rfl) [] rfl pre0 ((y2,y3)) (trivial) (by rfl) (by rfl) ((by rw [hll,←hou1];exact kz_pc (by exact j9 rfl rfl rfl rfl rfl rfl rfl rfl rfl))) ?_
  exact ⟨⟨_,rfl,(by rw [hwm,←hMM];exact okz_net rfl rfl rfl rfl)⟩,⟨⟨_,rfl,(by rw [hwm,←hMM,hll,←hon1];exact okz_row (fun _ _=>rfl))⟩,⟨⟨_,rfl,(by rw [hwm,←hMM,hll,←hbe1];exact okz_row (fun _ _=>rfl))⟩,trivial⟩⟩⟩
 have hr2:=hc2;(try simp only [hcs,Int.reduceToNat] at hc2)
 let k1:=c+6;have hwm:=w_many (t:=t) (by rw [←hpk];exact hc0) (by rw [←hpk];exact hc1);have hll:lay m t N0=layR m t.kidsT N0 ⟨[],[],Pc.nil⟩:=(by obtain ⟨k,ts,hts,hk3⟩:=w_row (by rw [←hpk];exact hc0) (by rw [←hpk];exact hc1) (by rw [←hpk];exact hc2) hok;rw [hts];simp [lay,hk3,T.kidsT])
 refine hw_skip<|hq_block<|h3 _<|srg fun N h23=>?_
 refine s0 (hop_build (hs:=[(8,1,_)]) st_74 rfl rfl ⟨rfl,rfl,rfl,rfl,rfl,trivial⟩) ?_
 refine hm_1 15 (hop_alloc (id:=15) (sz:=9) zc_74 rfl rfl (nb rfl) (nb rfl)) rfl rfl pre0 rfl rfl (c':=c+7) rfl ?_
 refine sw (c+8) ty_74 ?_
 refine snl h23<|hw_seq fun Nh24 h24=>srg fun N h25=>?_
 refine sf fd_29_4 ?_
 refine sl ty_25 ?_
 refine s0 (hnl el_25) ?_
 refine sm<|snl h25<|hw_block ?_
 refine hw_loopc (α:=Nat×Nat×List Bag×(Nat→Bag)×Pc×Nat×Nat) (fun x c=>⟨116,[(4,.v (.pt 9011 k0 0 0)),(5,.v (.pt 5 (k0+1) 0 0)),(7,.v (.pt 7 (k0+2) 0 0)),(8,.v (.pt 8 (k0+3) 0 0)),(15,.v (.pt 15 k1 0 0)),(100,.v (kidsV p.kids)),(101,.v (intV p.kids.length)),(102,.v (intV (x.1:Int)))],[(9001,netO g1 (.os 9002 x.2.2.2.2.2.1 0 x.2.1) (.os 9003 x.2.2.2.2.2.2 0 x.2.1)),(9002,rowO x.2.2.2.2.2.1 x.2.1 (onF x.2.2.1)),(9003,rowO x.2.2.2.2.2.2 x.2.1 x.2.2.2.1),(9011,nbO k0 g1),(5,⟨k0+1,1,1,24,0,fun _ _=>ptsV e⟩),(7,⟨k0+2,1,1,35,0,fun _ _=>(.fn (.func mf) mk mcaps)⟩),(8,pcO (k0+3) default),(15,pcO k1 x.2.2.2.2.1)],c⟩) (fun x=>x.1≤t.kidsT.length∧x.2.1=N0+T.wL (t.kidsT.take x.1)∧x.2.2.1=on++(layR m (t.kidsT.take x.1) N0 ⟨[],[],Pc.nil⟩).on∧x.2.2.2.1=links β (layR m (t.kidsT.take x.1) N0 ⟨[],[],Pc.nil⟩).lk∧x.2.2.2.2.1=(layR m (t.kidsT.take x.1) N0 ⟨[],[],Pc.nil⟩).pc) (fun x=>t.kidsT.length - x.1) ((0,N0,on,β,Pc.nil,g2,g3)) (by exact ⟨Nat.zero_le _,by simp [T.wL],by simp [layR],by simp [layR,links],by simp [layR]⟩) (hsub_of rfl (Nat.le_refl _) tsa (hsr rfl (hsr rfl (hsr rfl (hsr rfl (hsr rfl (hsr rfl (HpSub.cons rfl (osub_pc (by exact j9 rfl rfl rfl rfl rfl rfl rfl rfl rfl)) (HpSub.cons rfl (osub_pc (by exact j9 rfl rfl rfl rfl rfl rfl rfl rfl rfl)) HpSub.nil))))))))) (fun x c hx NhL26 hL26=>?_)
 revert hx hL26;obtain ⟨ii,MM,on1,be1,ou1,y2,y3⟩:=x;intro hx hL26;dsimp only at hx hL26 ⊢
 obtain ⟨hi,hMM,hon1,hbe1,hou1⟩:=hx
 have hA:=layR_pre hmo t.kidsT ii N0 om
 refine srg fun N h27=>?_
 refine s0 hli ?_
 refine snl h27<|hw_seq fun Nh28 h28=>?_
 refine wc (fun hc4=>?_) (fun hc4=>?_)
 ·have hr4:=hc4;(try simp only [hcs,Int.reduceToNat] at hc4)
  have him:ii < t.kidsT.length:=(by have h:=hr4;simp [hkid,hrl] at h;omega);have hka:=kids_at' hat him;have hkt:=at_top hka;have hks:=(t.kidsT.getD ii default).size_pos;have hroot:=roots_get t.kidsT b ii him;have hwt:=wL_take t.kidsT ii him;have hwl:=wL_le t.kidsT (ii+1);have hxw:MM+(t.kidsT.getD ii default).w≤256:=om;have hly:=lay_ok hmo (t.kidsT.getD ii default) MM hxw;have hlen1:on1.length=MM:=(by rw [hon1,List.length_append,hA.len,hon,hMM]);have hbok:∀ q,(be1 q).ok:=(by rw [hbe1];exact links_ok hA.lk hβ);have hbz:∀ q,MM≤q→q < 256→be1 q=Bag.zero:=(by rw [hbe1,hMM];exact links_zero hA.lk (fun q hq hq2=>hz q om hq2));have hou2:ou1.ok:=(by rw [hou1];exact hA.pc);have hino:InB N0 (MM+(t.kidsT.getD ii default).w) ou1.ends:=(by rw [hou1,hMM];exact hA.inB.2.mono (Nat.le_refl _) om);have hsn:=layR_snoc m (t.kidsT.take ii) N0 ⟨[],[],Pc.nil⟩ (t.kidsT.getD ii default);rw [←take_snoc him] at hsn
  refine hw_skip<|h28 _<|hw_seq fun Nh29 h29=>hw_block<|srg fun N h30=>?_
  refine s0 (hix el_25) ?_
  refine s0 (HOp.val (v':=intV ((b+T.sizeL (t.kidsT.take ii)+(t.kidsT.getD ii default).size - 1:Nat):Int)) (hop_load_fp ty_3 rfl (nb rfl) (fun h=>(by rfl))) (by exact kids_at (i:=ii) (by omega) (by rw [hkid,hroot];unfold T.root;omega))) ?_
  refine sa<|snl h30<|hd_start ?_
  refine dl 1 ty_36 ?_
  refine dl 2 ty_74 ?_
  refine dl 3 ty_36 ?_
  refine dl 4 ty_24 ?_
  refine dm 5 ?_
  refine dl 6 ty_35 ?_
  refine hd_m 112 (hop_net (xs:=[_,_,_,_]) (fun c=>ih ii him c g1 y2 y3 MM on1 be1 hlen1 hxw hbok hbz) (noClk_pc _) ⟨rfl,⟨rfl,⟨rfl,⟨rfl,trivial⟩⟩⟩⟩) rfl rfl (preC rfl (preC rfl (preC rfl pre0))) rfl rfl (k':=7) rfl ?_
  refine hd_m 113 (hop_funD (xs:=[_,_,_]) (pre:=[(9001,_),(9002,_),(9003,_)]) (join_h ou1 (lay m (t.kidsT.getD ii default) MM).pc hou2 hly.pc (MM+(t.kidsT.getD ii default).w) g1 _ _ _ _ (links_ok hly.lk hbok) hxw (inB_lt hino)) ((clk3 rfl)) ⟨rfl,⟨rfl,⟨rfl,trivial⟩⟩⟩) rfl rfl (preC rfl (preC rfl (preC rfl pre0))) rfl rfl (k':=8) rfl ?_
  refine hd_s1 (hol_storeW ty_74 rfl rfl rfl rfl) rfl rfl (pre1 rfl) (k':=9) rfl ?_
  refine hd_nil kr kr (c':=c+9) rfl ?_
  refine hq_block<|h29 _<|hw_region ?_
  refine s0 hai ?_
  refine sm<|hseq_nil ?_
  exact hL26 ((ii+1,MM+(t.kidsT.getD ii default).w,on1++(lay m (t.kidsT.getD ii default) MM).on,linkF (links be1 (lay m (t.kidsT.getD ii default) MM).lk) (ou1.ends,(lay m (t.kidsT.getD ii default) MM).pc.first),ou1.join (lay m (t.kidsT.getD ii default) MM).pc,c+6,c+6)) _ _ (by (try dsimp only);exact ⟨by omega,by rw [hMM,hwt,Nat.add_assoc],by rw [hsn,←hMM,hon1];simp only [stR,List.append_assoc],by rw [hsn,←hMM,hbe1,hou1];simp only [stR];rw [links_app,links_app];rfl,by rw [hsn,←hMM,hou1];rfl⟩) (by (try dsimp only);omega) (hsub_of rfl (Nat.le_refl _) tsa (hsr rfl (hsr rfl (hsr rfl (hsr rfl (hsr rfl (hsr rfl (hsr rfl (HpSub.cons rfl (osub_pc (by exact j9 rfl rfl rfl rfl rfl rfl rfl rfl rfl)) HpSub.nil)))))))))
 have hr4:=hc4;(try simp only [hcs,Int.reduceToNat] at hc4)
 have hit:ii=t.kidsT.length:=(by have h:=hr4;simp [hkid,hrl] at h;omega);rw [hit,List.take_length] at hA hMM hon1 hbe1 hou1
 refine hw_exit ?_
 refine hq_then_exit<|hq_then_exit<|hq_block_here<|h24 _<|srg fun N h31=>?_
 refine sl ty_74 ?_
 refine sw (c+1) ty_74 ?_
 refine snl h31<|hw_ret ?_
 refine hf_retR1 ok hX RetS.one rfl (rvl_cell rfl rfl ty_74 rqc rfl rfl) [] rfl pre0 ((y2,y3)) (trivial) (by rfl) (by rfl) ((by rw [hll,←hou1];exact kz_pc (by exact j9 rfl rfl rfl rfl rfl rfl rfl rfl rfl))) ?_
 exact ⟨⟨_,rfl,(by rw [hwm,←hMM];exact okz_net rfl rfl rfl rfl)⟩,⟨⟨_,rfl,(by rw [hwm,←hMM,hll,←hon1];exact okz_row (fun _ _=>rfl))⟩,⟨⟨_,rfl,(by rw [hwm,←hMM,hll,←hbe1];exact okz_row (fun _ _=>rfl))⟩,trivial⟩⟩⟩
theorem parse_tree {t:T} {l:List Sg} {r:List Pt×Int×Int} {s:List UInt8} (hl:lexV s=.ok l) (hs:Seg l 3 0 l.length t) (h:ParseIs s r):r=(T.flat 0 t,0,0):=by
 have hne:l≠[]:=fun h=>by subst h;have:=seg_lt hs;simp at this
 have hc:chk l 0 0 true true=(-1,false):=all_good hs
 cases h with
 | err e hv=>rw [hl] at hv;cases hv
 | none hv=>rw [hl] at hv;injection hv with hv;exact absurd hv hne
 | odd l' q hv _ _ hq=>rw [hl] at hv;injection hv with hv;subst hv;rw [hc] at hq;injection hq with hq _;exact absurd hq (by omega)
 | end_ l' hv _ hq=>rw [hl] at hv;injection hv with hv;subst hv;rw [hc] at hq;injection hq with _ hq;cases hq
 | ok l' t' hv hs'=>rw [hl] at hv;injection hv with hv;subst hv;rw [seg_one hs' hs]
instance frz_fn0 (f:Fn) (c:Nat→HV):Frz (.fn f 0 c):=⟨.fn _ 0 _ _ (fun i hi=>absurd hi (Nat.not_lt_zero _))⟩
@[reducible] def nmsF (ls:List (List UInt8)):Nat→Nat→HV:=fun i _=>strV (ls.getD i [])
@[reducible] def nmsV (ls:List (List UInt8)):HV:=.sl 1 ls.length (nmsF ls)
@[reducible] def nmsO (g:Nat) (ls:List (List UInt8)):HObj:=⟨g,ls.length,1,9,0,nmsF ls⟩
@[reducible] def boxS (g g2 n:Nat):HObj:=⟨g,1,1,66,0,fun _ _=>.os 8001 g2 0 n⟩
instance frz_nmsV (l:List (List UInt8)):Frz (nmsV l):=⟨.sl _ _ _ _ fun i j _ _=>.imm _⟩
theorem okz_nms {kp sh:List (Nat×HObj)} {g:Nat} {l:List (List UInt8)}:OKz kp sh (nmsO g l) (nmsO g l):=.of fun i j _ _=>.fz _ _ (.imm _)
def idxS (l:List (List UInt8)) (s:List UInt8):Int:=if s∈l then (l.idxOf s:Int) else -1
theorem idx_of {l:List (List UInt8)} {s:List UInt8} {k:Nat} (hk:k < l.length) (h:l.getD k []=s) (hn:∀ i,i < k→l.getD i []≠s):idxS l s=(k:Int):=by
 have hk':l[k]=s:=by rwa [List.getD_eq_getElem?_getD,List.getElem?_eq_getElem hk] at h
 have hm:s∈l:=by rw [←hk'];exact List.getElem_mem hk
 unfold idxS
 rw [if_pos hm]
 congr 1
 have hi:=List.idxOf_lt_length_of_mem hm
 have hgi:l[l.idxOf s]=s:=List.getElem_idxOf hi
 rcases Nat.lt_trichotomy (l.idxOf s) k with h1 | h1 | h1
 ·exact absurd (by rw [List.getD_eq_getElem?_getD,List.getElem?_eq_getElem hi];exact hgi) (hn _ h1)
 ·exact h1
 ·have:=List.not_of_lt_findIdx (p:=(· == s)) (xs:=l) (i:=k) h1
  simp [hk'] at this
theorem idx_no {l:List (List UInt8)} {s:List UInt8} (hn:∀ i,i < l.length→l.getD i []≠s):idxS l s=-1:=by
 unfold idxS
 rw [if_neg]
 intro hm
 obtain ⟨i,hi,h⟩:=List.mem_iff_getElem.1 hm
 exact hn i hi (by rw [List.getD_eq_getElem?_getD,List.getElem?_eq_getElem hi];exact h)
theorem idx_mem (l:List (List UInt8)) (s:List UInt8):decide (0≤idxS l s)=decide (s∈l):=by
 unfold idxS
 by_cases h:s∈l
 ·rw [if_pos h,decide_eq_true h,decide_eq_true (by omega)]
 ·rw [if_neg h,decide_eq_false h];rfl
theorem index_h (g:Nat) (l:List (List UInt8)) (s:List UInt8) (hl:l.length≤1000000):HFunD Tryz.prog 89 [.os 8001 g 0 l.length,strV s] [(8001,nmsO g l)] (intV (idxS l s)) [(8001,nmsO g l)]:=by
 intro c
 refine hfun_of Tryz.func89 rfl kr _ _ _ _ rfl 19 rfl rfl (fun X ok hX=>?_)
 refine srg fun N h1=>sa<|snl h1<|hw_seq fun Nh2 h2=>srg fun N h3=>sm ?_
 first
 | refine hq_ 7 (hop_len_sl (T:=66) rfl (elOf_spec el_66).1 rfl) rfl rfl pre0 rfl rfl ?_
 | refine hq_ 7 (hop_len_os (T:=66) rfl (elOf_spec el_66).1 rfl) rfl rfl pre0 rfl rfl ?_
 | refine hq_ 7 (hop_len_nil (T:=66) rfl (elOf_spec el_66).1 rfl) rfl rfl pre0 rfl rfl ?_
 refine sm<|snl h3<|hw_block ?_
 refine hw_loopc (α:=Nat) (fun x c=>⟨19,[(0,.v (.os 8001 g 0 l.length)),(1,.v (strV s)),(7,.v (intV l.length)),(8,.v (intV x))],[(8001,nmsO g l)],c⟩) (fun x=>x≤l.length∧∀ i,i < x→l.getD i []≠s) (fun x=>l.length - x) (0) (by exact ⟨Nat.zero_le _,fun i h=>absurd h (Nat.not_lt_zero _)⟩) (hsub_of rfl (Nat.le_refl _) tsa hsa) (fun k c hx NhL4 hL4=>?_)
 (try dsimp only at hx hL4 ⊢)
 obtain ⟨hk,hE⟩:=hx
 refine srg fun N h5=>?_
 refine s0 hli ?_
 refine snl h5<|hw_seq fun Nh6 h6=>?_
 refine wc (fun hc0=>?_) (fun hc0=>?_)
 ·have hr0:=hc0;(try simp only [hcs,Int.reduceToNat] at hc0)
  refine hw_skip<|h6 _<|hw_seq fun Nh7 h7=>hw_block<|srg fun N h8=>sm<|sa<|snl h8<|srg fun N h9=>sm<|sm<|sm ?_
  first
  | refine hq_ 14 (hop_ia_sl el_66 rfl rfl (by first | exact Nat.le_of_ble_eq_true rfl | omega | (dsimp only;omega) | (simp <;> omega)) (by first | exact Nat.le_of_ble_eq_true rfl | omega | (dsimp only;omega) | (simp <;> omega)) (by first | exact Nat.le_of_ble_eq_true rfl | omega | (dsimp only;omega) | (simp <;> omega))) rfl rfl pre0 rfl rfl ?_
  | refine hq_ 14 (hol_ia_os el_66 rfl rfl (by first | exact Nat.le_of_ble_eq_true rfl | omega | (dsimp only;omega) | (simp <;> omega)) (by first | exact Nat.le_of_ble_eq_true rfl | omega | (dsimp only;omega) | (simp <;> omega))) rfl rfl (pre1 rfl) rfl rfl ?_
  first
  | refine hq_ 15 (HOp.val (v':=strV (l.getD k [])) (hol_load ty_9 rfl (by first | exact Nat.le_of_ble_eq_true rfl | omega | (dsimp only;omega) | (simp <;> omega)) (by first | exact Nat.le_of_ble_eq_true rfl | omega | (dsimp only;omega) | (simp <;> omega)) (fun h=>(by first | rfl | cases h))) (by simp only [Nat.zero_add];rfl)) rfl rfl (pre1 rfl) rfl rfl ?_
  | refine hq_ 15 (HOp.val (v':=strV (l.getD k [])) (hop_load_fp ty_9 rfl (by first | exact Nat.le_of_ble_eq_true rfl | omega | (dsimp only;omega) | (simp <;> omega)) (fun h=>(by first | rfl | cases h))) (by simp only [Nat.zero_add];rfl)) rfl rfl pre0 rfl rfl ?_
  refine s0 (hop_seq_l rfl rfl) ?_
  refine snl h9 ?_
  refine wc (fun hc1=>?_) (fun hc1=>?_)
  ·have hr1:=hc1;(try simp only [hcs,Int.reduceToNat] at hc1)
   have hks:l.getD k []=s:=(by have h:=hr1;simpa [eq_comm] using h)
   refine srg fun N h10=>sm<|sa<|snl h10<|hw_ret<|hq_block_ret<|hq_then_ret<|hq_then_ret<|hq_block_ret<|hq_then_ret ?_
   refine hf_retR1 ok hX RetS.one rfl (rval_tmp rfl) [] rfl pre0 (()) (trivial) (by rfl) (by rfl) (by rw [idx_of om hks hE];exact kza) ?_
   exact ⟨⟨_,rfl,okz_nms⟩,trivial⟩
  have hr1:=hc1;(try simp only [hcs,Int.reduceToNat] at hc1)
  refine hw_skip<|hq_block<|h7 _<|hw_region ?_
  first
  | refine hq_ 18 (hop_addi rfl rfl rfl (by first | exact Nat.le_of_ble_eq_true rfl | omega | (dsimp only;omega) | (simp <;> omega)) (by first | exact Nat.le_of_ble_eq_true rfl | omega | (dsimp only;omega) | (simp <;> omega))) rfl rfl pre0 rfl rfl ?_
  | refine hq_ 18 (hop_add rfl rfl) rfl rfl pre0 rfl rfl ?_
  refine sm<|hseq_nil ?_
  exact hL4 (k+1) _ _ (by (try dsimp only);exact ⟨by omega,fun i hi=>by by_cases e:i=k;(· subst e;exact fun h=>by rw [h] at hr1;simp at hr1);exact hE i om⟩) (by (try dsimp only);omega) (hsub_of rfl (Nat.le_refl _) tsa hsa)
 have hr0:=hc0;(try simp only [hcs,Int.reduceToNat] at hc0)
 refine hw_exit ?_
 refine hq_then_exit<|hq_then_exit<|hq_block_here<|h2 _<|srg fun N h11=>sa<|snl h11<|hw_ret ?_
 refine hf_retR1 ok hX RetS.one rfl (rval_tmp rfl) [] rfl pre0 (()) (trivial) (by rfl) (by rfl) (by rw [idx_no (fun i hi=>hE i om)];exact kza) ?_
 exact ⟨⟨_,rfl,okz_nms⟩,trivial⟩
theorem contains_h (g:Nat) (l:List (List UInt8)) (s:List UInt8) (hl:l.length≤1000000):HFunD Tryz.prog 65 [.os 8001 g 0 l.length,strV s] [(8001,nmsO g l)] (boolV (decide (s∈l))) [(8001,nmsO g l)]:=by
 intro c
 refine hfun_of Tryz.func65 rfl kr _ _ _ _ rfl 9 rfl rfl (fun X ok hX=>?_)
 refine srg fun N h1=>sa<|snl h1<|srg fun N h2=>sm<|sm ?_
 refine hf_callR 7 (xs:=[_,_]) (pre:=[(8001,_)]) (index_h g l s hl _) ⟨rfl,⟨rfl,trivial⟩⟩ (preC rfl pre0) rfl rfl (fun u c1 hx1=>?_)
 (try dsimp only)
 refine s0 (hop_geq rfl rfl) ?_
 refine sa<|snl h2<|hw_ret ?_
 refine hf_retR1 ok hX RetS.one rfl (rval_tmp rfl) [] rfl pre0 (()) (trivial) (by rfl) (by rfl) (by rw [←idx_mem];exact kza) ?_
 exact ⟨⟨_,rfl,okz_nms⟩,trivial⟩
theorem okz_nmsn {kp sh:List (Nat×HObj)} {l o':List (List UInt8)} {x:List UInt8} {g n ty:Nat} {f:Nat→Nat→HV} (ho:l++[x]=o') (hn:n=l.length:=by rfl) (h0:f 0 0=strV x:=by rfl):OKz kp sh ⟨g,n+1,1,ty,0,cat n (nmsF l) f⟩ ⟨g,o'.length,1,ty,0,nmsF o'⟩:=by
 subst hn;subst ho
 refine ⟨rfl,by simp,rfl,rfl,Nat.le_refl _,fun i j hi hj=>.fz _ _ ?_,fun h=>absurd h (Nat.not_lt_zero _)⟩
 show Fz sh (cat l.length (nmsF l) f i j) (strV ((l++[x]).getD i []))
 by_cases h':i < l.length
 ·rw [cat_lt h',getD_app h'];exact .imm _
 ·have hi':i=l.length:=by simp only at hi;omega
  subst hi'
  obtain rfl:j=0:=by simp only at hj;omega
  rw [cat_ge (Nat.le_refl _),Nat.sub_self,getD_snoc,h0];exact .imm _
theorem add_h (c g g2:Nat) (l:List (List UInt8)) (s:List UInt8) (hl:l.length≤100000):HFun Tryz.prog 64 c [strV s,.pt 8002 g 0 0] [(8002,boxS g g2 l.length),(8001,nmsO g2 l)]
  (RetP (fun (_:Nat) _=>True) (fun _=>.tup 0 fun _=>default) (fun g'=>[(8002,boxS g g' (if s∈l then l else l++[s]).length),(8001,nmsO g' (if s∈l then l else l++[s]))])):=by
 refine hfun_of Tryz.func64 rfl kr _ _ _ _ rfl 11 rfl rfl (fun X ok hX=>?_)
 refine srg fun N h1=>?_
 first
 | refine hq_ 3 (hol_load ty_66 rfl (by first | exact Nat.le_of_ble_eq_true rfl | omega | (dsimp only;omega) | (simp <;> omega)) (by first | exact Nat.le_of_ble_eq_true rfl | omega | (dsimp only;omega) | (simp <;> omega)) (fun h=>(by first | rfl | cases h))) rfl rfl (pre1 rfl) rfl rfl ?_
 | refine hq_ 3 (hop_load_fp ty_66 rfl (by first | exact Nat.le_of_ble_eq_true rfl | omega | (dsimp only;omega) | (simp <;> omega)) (fun h=>(by first | rfl | cases h))) rfl rfl pre0 rfl rfl ?_
 refine sm ?_
 refine hq_ 5 (hop_funR (xs:=[_,_]) (pre:=[(8001,_)]) (contains_h g2 l s om) ⟨rfl,⟨rfl,trivial⟩⟩) rfl rfl (preC rfl pre0) rfl rfl ?_
 refine s0 (hop_not rfl) ?_
 refine snl h1 ?_
 refine wc (fun hc0=>?_) (fun hc0=>?_)
 ·have hr0:=hc0;(try simp only [hcs,Int.reduceToNat] at hc0)
  have hns:¬ s∈l:=(by have h:=hr0;simpa using h)
  refine hw_region ?_
  first
  | refine hq_ 7 (hol_load ty_66 rfl (by first | exact Nat.le_of_ble_eq_true rfl | omega | (dsimp only;omega) | (simp <;> omega)) (by first | exact Nat.le_of_ble_eq_true rfl | omega | (dsimp only;omega) | (simp <;> omega)) (fun h=>(by first | rfl | cases h))) rfl rfl (pre1 rfl) rfl rfl ?_
  | refine hq_ 7 (hop_load_fp ty_66 rfl (by first | exact Nat.le_of_ble_eq_true rfl | omega | (dsimp only;omega) | (simp <;> omega)) (fun h=>(by first | rfl | cases h))) rfl rfl pre0 rfl rfl ?_
  refine sm ?_
  refine hm_1 9 (hop_buildSlice (id:=9) (hs:=[_]) ei_66 omx rfl omx ⟨rfl,rfl,rfl,rfl,trivial⟩) rfl rfl pre0 rfl rfl (c':=c+1) rfl ?_
  first
  | refine hm_1 10 (hol_append ei_66 (by first | exact Nat.le_of_ble_eq_true rfl | omega | (dsimp only;omega) | (simp <;> omega)) rfl (by first | exact Nat.le_of_ble_eq_true rfl | omega | (dsimp only;omega) | (simp <;> omega)) (by first | exact Nat.le_of_ble_eq_true rfl | omega | (dsimp only;omega) | (simp <;> omega)) (srl_os0 rfl (by first | exact Nat.le_of_ble_eq_true rfl | omega | (dsimp only;omega) | (simp <;> omega))) (by first | exact Nat.le_of_ble_eq_true rfl | omega | (dsimp only;omega) | (simp <;> omega)) rfl) rfl rfl (preC rfl (pre1 rfl)) rfl rfl (c':=c+2) rfl ?_
  | refine hm_1 10 (hol_append ei_66 (by first | exact Nat.le_of_ble_eq_true rfl | omega | (dsimp only;omega) | (simp <;> omega)) rfl (by first | exact Nat.le_of_ble_eq_true rfl | omega | (dsimp only;omega) | (simp <;> omega)) (by first | exact Nat.le_of_ble_eq_true rfl | omega | (dsimp only;omega) | (simp <;> omega)) (srl_os rfl (by first | exact Nat.le_of_ble_eq_true rfl | omega | (dsimp only;omega) | (simp <;> omega))) (by first | exact Nat.le_of_ble_eq_true rfl | omega | (dsimp only;omega) | (simp <;> omega)) rfl) rfl rfl (preC rfl (pre1 rfl)) rfl rfl (c':=c+2) rfl ?_
  | refine hm_1 10 (hol_append ei_66 (by first | exact Nat.le_of_ble_eq_true rfl | omega | (dsimp only;omega) | (simp <;> omega)) rfl (by first | exact Nat.le_of_ble_eq_true rfl | omega | (dsimp only;omega) | (simp <;> omega)) (by first | exact Nat.le_of_ble_eq_true rfl | omega | (dsimp only;omega) | (simp <;> omega)) (src_sl rfl) (by first | exact Nat.le_of_ble_eq_true rfl | omega | (dsimp only;omega) | (simp <;> omega)) rfl) rfl rfl (preC rfl pre0) rfl rfl (c':=c+2) rfl ?_
  | refine hm_1 10 (hol_append ei_66 (by first | exact Nat.le_of_ble_eq_true rfl | omega | (dsimp only;omega) | (simp <;> omega)) rfl (by first | exact Nat.le_of_ble_eq_true rfl | omega | (dsimp only;omega) | (simp <;> omega)) (by first | exact Nat.le_of_ble_eq_true rfl | omega | (dsimp only;omega) | (simp <;> omega)) (src_nil 1 (fun _ _=>default) rfl) (by first | exact Nat.le_of_ble_eq_true rfl | omega | (dsimp only;omega) | (simp <;> omega)) rfl) rfl rfl (preC rfl pre0) rfl rfl (c':=c+2) rfl ?_
  first
  | refine hm_s1 (hol_storeW ty_66 rfl rfl rfl rfl) rfl rfl (pre1 rfl) (c':=c+3) rfl ?_
  | refine hm_s1 (hol_store ty_66 rfl rfl rfl rfl (by first | exact Nat.le_of_ble_eq_true rfl | omega | (dsimp only;omega) | (simp <;> omega)) (by first | exact Nat.le_of_ble_eq_true rfl | omega | (dsimp only;omega) | (simp <;> omega)) (by first | exact Nat.le_of_ble_eq_true rfl | omega | (dsimp only;omega) | (simp <;> omega))) rfl rfl (pre1 rfl) (c':=c+3) rfl ?_
  refine hseq_nil ?_
  refine hq_fall ?_
  refine hf_retR0 ok hX RetS.one rfl  [] rfl pre0 ((c+1)) (trivial) (by rfl) (by rfl) (kza) ?_
  exact ⟨⟨_,rfl,(by exact okz1 (kz_os rfl rfl (by rw [if_neg hns];simp)))⟩,⟨⟨_,rfl,(by exact okz_nmsn (x:=s) (by rw [if_neg hns]))⟩,trivial⟩⟩
 have hr0:=hc0;(try simp only [hcs,Int.reduceToNat] at hc0)
 have hns:s∈l:=(by have h:=hr0;simpa using h)
 refine hw_skip ?_
 refine hq_fall ?_
 refine hf_retR0 ok hX RetS.one rfl  [] rfl pre0 (g2) (trivial) (by rfl) (by rfl) (kza) ?_
 exact ⟨⟨_,rfl,(by exact okz1 (kz_os rfl rfl (by rw [if_pos hns])))⟩,⟨⟨_,rfl,(by rw [if_pos hns];exact okz_nms)⟩,trivial⟩⟩
theorem names_take_add {e:List Pt} {i:Nat} (h:i < e.length) (hk:(e.getD i default).kind=1):namesV (e.take (i+1))=if (e.getD i default).name∈namesV (e.take i) then namesV (e.take i) else namesV (e.take i)++[(e.getD i default).name]:=by
 rw [names_take h]
 unfold addN
 by_cases hm:(e.getD i default).name∈namesV (e.take i)
 ·rw [if_neg (fun h=>h.2 hm),if_pos hm]
 ·rw [if_pos ⟨hk,hm⟩,if_neg hm]
theorem names_take_not {e:List Pt} {i:Nat} (h:i < e.length) (hk:¬ (e.getD i default).kind=1):namesV (e.take (i+1))=namesV (e.take i):=by
 rw [names_take h]
 unfold addN
 rw [if_neg (fun h=>hk h.1)]
theorem names_h (e:List Pt) (he:e.length≤100000):HPure Tryz.prog 34 [ptsV e] (nmsV (namesV e)):=by
 have hnl:=fun i=>names_len (e:=e) i
 refine hpure_of Tryz.func34 rfl kr _ _ _ rfl 23 rfl rfl (fun w F=>?_)
 refine srg fun N h1=>sa<|snl h1<|srg fun N h2=>?_
 refine hm_1 3 (hop_alloc (id:=8002) (sz:=1) zc_66 rfl rfl (by decide) (by decide)) rfl rfl pre0 rfl rfl (c':=1) rfl ?_
 refine snl h2<|hw_seq fun Nh3 h3=>?_
 refine (hsub_ownc 8002 0 8001 1 9 (nmsF []) (fun _ _=>.os 8001 1 0 0) rfl rfl (fun j hj=>.inl ⟨by omega,rfl⟩) (by decide) (by decide) (c':=2) rfl).wp ?_
 refine hw_region ?_
 refine s0 (hop_makeFunc (hs:=[_]) ⟨rfl,trivial⟩) ?_
 refine sa<|snl h3<|hw_seq fun Nh4 h4=>srg fun N h5=>sm ?_
 first
 | refine hq_ 9 (hop_len_sl (T:=24) rfl (elOf_spec el_24).1 rfl) rfl rfl pre0 rfl rfl ?_
 | refine hq_ 9 (hop_len_os (T:=24) rfl (elOf_spec el_24).1 rfl) rfl rfl pre0 rfl rfl ?_
 | refine hq_ 9 (hop_len_nil (T:=24) rfl (elOf_spec el_24).1 rfl) rfl rfl pre0 rfl rfl ?_
 refine sm<|snl h5<|hw_block ?_
 refine hw_loopc (α:=Nat×Nat) (fun x c=>⟨23,[(3,.v (.pt 8002 0 0 0)),(4,.v (.fn (.func 64) 1 (fun q=>[HV.pt 8002 0 0 0].getD q default))),(8,.v (ptsV e)),(9,.v (intV e.length)),(10,.v (intV x.1))],[(8002,boxS 0 x.2 (namesV (e.take x.1)).length),(8001,nmsO x.2 (namesV (e.take x.1)))],c⟩) (fun x=>x.1≤e.length) (fun x=>e.length - x.1) ((0,1)) (by exact Nat.zero_le _) (hsub_of rfl (Nat.le_refl _) tsa hsa) (fun x c hx NhL6 hL6=>?_)
 revert hx hL6;obtain ⟨i,g⟩:=x;intro hx hL6;dsimp only at hx hL6 ⊢
 refine srg fun N h7=>?_
 refine s0 hli ?_
 refine snl h7<|hw_seq fun Nh8 h8=>?_
 refine wc (fun hc0=>?_) (fun hc0=>?_)
 ·have hr0:=hc0;(try simp only [hcs,Int.reduceToNat] at hc0)
  have hil:i < e.length:=om;have hnli:=hnl i
  refine hw_skip<|h8 _<|hw_seq fun Nh9 h9=>hw_block<|srg fun N h10=>?_
  first
  | refine hq_ 12 (hop_ia_sl el_24 rfl rfl (by first | exact Nat.le_of_ble_eq_true rfl | omega | (dsimp only;omega) | (simp <;> omega)) (by first | exact Nat.le_of_ble_eq_true rfl | omega | (dsimp only;omega) | (simp <;> omega)) (by first | exact Nat.le_of_ble_eq_true rfl | omega | (dsimp only;omega) | (simp <;> omega))) rfl rfl pre0 rfl rfl ?_
  | refine hq_ 12 (hol_ia_os el_24 rfl rfl (by first | exact Nat.le_of_ble_eq_true rfl | omega | (dsimp only;omega) | (simp <;> omega)) (by first | exact Nat.le_of_ble_eq_true rfl | omega | (dsimp only;omega) | (simp <;> omega))) rfl rfl (pre1 rfl) rfl rfl ?_
  first
  | refine hq_ 13 (hol_load ty_29 rfl (by first | exact Nat.le_of_ble_eq_true rfl | omega | (dsimp only;omega) | (simp <;> omega)) (by first | exact Nat.le_of_ble_eq_true rfl | omega | (dsimp only;omega) | (simp <;> omega)) (fun h=>(by first | rfl | cases h))) rfl rfl (pre1 rfl) rfl rfl ?_
  | refine hq_ 13 (hop_load_fp ty_29 rfl (by first | exact Nat.le_of_ble_eq_true rfl | omega | (dsimp only;omega) | (simp <;> omega)) (fun h=>(by first | rfl | cases h))) rfl rfl pre0 rfl rfl ?_
  refine hm_1 6 (hop_alloc (id:=6) (sz:=5) zc_29 rfl rfl omx omx) rfl rfl pre0 rfl rfl (c':=c+1) rfl ?_
  first
  | refine hm_s1 (hol_storeW ty_29 rfl rfl rfl rfl) rfl rfl (pre1 rfl) (c':=c+2) rfl ?_
  | refine hm_s1 (hol_store ty_29 rfl rfl rfl rfl (by first | exact Nat.le_of_ble_eq_true rfl | omega | (dsimp only;omega) | (simp <;> omega)) (by first | exact Nat.le_of_ble_eq_true rfl | omega | (dsimp only;omega) | (simp <;> omega)) (by first | exact Nat.le_of_ble_eq_true rfl | omega | (dsimp only;omega) | (simp <;> omega))) rfl rfl (pre1 rfl) (c':=c+2) rfl ?_
  refine snl h10<|srg fun N h11=>?_
  first
  | refine hq_ 14 (hop_fa fd_29_0 rfl) rfl rfl pre0 rfl rfl ?_
  | refine hq_ 14 (hop_fa_fp fd_29_0 rfl (by first | exact Nat.le_of_ble_eq_true rfl | omega | (dsimp only;omega) | (simp <;> omega))) rfl rfl pre0 rfl rfl ?_
  first
  | refine hq_ 15 (HOp.val (v':=intV (e.getD i default).kind) (hol_load ty_3 rfl (by first | exact Nat.le_of_ble_eq_true rfl | omega | (dsimp only;omega) | (simp <;> omega)) (by first | exact Nat.le_of_ble_eq_true rfl | omega | (dsimp only;omega) | (simp <;> omega)) (fun h=>(by first | rfl | cases h))) (rfl)) rfl rfl (pre1 rfl) rfl rfl ?_
  | refine hq_ 15 (HOp.val (v':=intV (e.getD i default).kind) (hop_load_fp ty_3 rfl (by first | exact Nat.le_of_ble_eq_true rfl | omega | (dsimp only;omega) | (simp <;> omega)) (fun h=>(by first | rfl | cases h))) (rfl)) rfl rfl pre0 rfl rfl ?_
  refine s0 hqi ?_
  refine snl h11 ?_
  refine wc (fun hc1=>?_) (fun hc1=>?_)
  ·have hr1:=hc1;(try simp only [hcs,Int.reduceToNat] at hc1)
   refine hw_region<|sm ?_
   first
   | refine hq_ 18 (hop_fa fd_29_3 rfl) rfl rfl pre0 rfl rfl ?_
   | refine hq_ 18 (hop_fa_fp fd_29_3 rfl (by first | exact Nat.le_of_ble_eq_true rfl | omega | (dsimp only;omega) | (simp <;> omega))) rfl rfl pre0 rfl rfl ?_
   first
   | refine hq_ 19 (HOp.val (v':=strV (e.getD i default).name) (hol_load ty_9 rfl (by first | exact Nat.le_of_ble_eq_true rfl | omega | (dsimp only;omega) | (simp <;> omega)) (by first | exact Nat.le_of_ble_eq_true rfl | omega | (dsimp only;omega) | (simp <;> omega)) (fun h=>(by first | rfl | cases h))) (rfl)) rfl rfl (pre1 rfl) rfl rfl ?_
   | refine hq_ 19 (HOp.val (v':=strV (e.getD i default).name) (hop_load_fp ty_9 rfl (by first | exact Nat.le_of_ble_eq_true rfl | omega | (dsimp only;omega) | (simp <;> omega)) (fun h=>(by first | rfl | cases h))) (rfl)) rfl rfl pre0 rfl rfl ?_
   refine hf_callVR 20 (xs:=[_]) (cs:=[_]) (pre:=[(8002,_),(8001,_)]) (add_h _ 0 g (namesV (e.take i)) (e.getD i default).name om) rfl rfl (fun i hi=>by first | rfl | (rcases i with _ | i <;> first | rfl | (exact absurd hi om) | (simp at hi))) ⟨rfl,trivial⟩ (preC rfl (preC rfl pre0)) rfl rfl (fun g3 c1 hx1=>?_)
   (try dsimp only)
   refine hseq_nil<|hq_block<|h9 _<|hw_region ?_
   first
   | refine hq_ 21 (hop_addi rfl rfl rfl (by first | exact Nat.le_of_ble_eq_true rfl | omega | (dsimp only;omega) | (simp <;> omega)) (by first | exact Nat.le_of_ble_eq_true rfl | omega | (dsimp only;omega) | (simp <;> omega))) rfl rfl pre0 rfl rfl ?_
   | refine hq_ 21 (hop_add rfl rfl) rfl rfl pre0 rfl rfl ?_
   refine sm<|hseq_nil ?_
   exact hL6 ((i+1,g3)) _ _ (by (try dsimp only);omega) (by (try dsimp only);omega) (hsub_of rfl (Nat.le_refl _) tsa (HpSub.cons rfl (by dsimp only;rw [names_take_add hil hc1];exact .refl _) (HpSub.cons rfl (by dsimp only;rw [names_take_add hil hc1];exact .refl _) HpSub.nil)))
  have hr1:=hc1;(try simp only [hcs,Int.reduceToNat] at hc1)
  refine hw_skip<|hq_block<|h9 _<|hw_region ?_
  first
  | refine hq_ 21 (hop_addi rfl rfl rfl (by first | exact Nat.le_of_ble_eq_true rfl | omega | (dsimp only;omega) | (simp <;> omega)) (by first | exact Nat.le_of_ble_eq_true rfl | omega | (dsimp only;omega) | (simp <;> omega))) rfl rfl pre0 rfl rfl ?_
  | refine hq_ 21 (hop_add rfl rfl) rfl rfl pre0 rfl rfl ?_
  refine sm<|hseq_nil ?_
  exact hL6 ((i+1,g)) _ _ (by (try dsimp only);omega) (by (try dsimp only);omega) (hsub_of rfl (Nat.le_refl _) tsa (HpSub.cons rfl (by dsimp only;rw [names_take_not hil hc1];exact .refl _) (HpSub.cons rfl (by dsimp only;rw [names_take_not hil hc1];exact .refl _) HpSub.nil)))
 have hr0:=hc0;(try simp only [hcs,Int.reduceToNat] at hc0)
 refine hw_exit ?_
 refine hq_then_exit<|hq_then_exit<|hq_block_here<|h4 _<|hw_seq fun Nh12 h12=>?_
 obtain rfl:i=e.length:=om
 refine hw_region ?_
 first
 | refine hq_ 22 (hol_load ty_66 rfl (by first | exact Nat.le_of_ble_eq_true rfl | omega | (dsimp only;omega) | (simp <;> omega)) (by first | exact Nat.le_of_ble_eq_true rfl | omega | (dsimp only;omega) | (simp <;> omega)) (fun h=>(by first | rfl | cases h))) rfl rfl (pre1 rfl) rfl rfl ?_
 | refine hq_ 22 (hop_load_fp ty_66 rfl (by first | exact Nat.le_of_ble_eq_true rfl | omega | (dsimp only;omega) | (simp <;> omega)) (fun h=>(by first | rfl | cases h))) rfl rfl pre0 rfl rfl ?_
 refine sa<|snl h12<|hw_ret ?_
 refine hq_ret1 rfl (rval_tmp rfl) [(8001,_)] rfl (preC rfl pre0) ?_
 rw [List.take_length];exact fz_row (l:=namesV e) (enc:=fun x _=>strV x) (d:=[]) (List.mem_cons_self ..) rfl rfl (Nat.le_refl _) (fun i j _ _=>.imm _)
structure MeanOk (mf:FuncId) (mk:Nat) (mcaps:Nat→HV) (mcs:List HV) (m:List UInt8→Bag):Prop where
 len:mcs.length=mk
 cap:∀ i,i < mk→mcs[i]?=some (mcaps i)
 fz:FzAll [] mcs mcs
 ff:∀ sh,Fz sh (.fn (.func mf) mk mcaps) (.fn (.func mf) mk mcaps)
 h:∀ s,nameV s=true→HPure Tryz.prog mf ([strV s]++mcs) (bagH (m s))
 ok:∀ s,(m s).ok
section
variable {mf:FuncId} {mk:Nat} {mcaps:Nat→HV} {mcs:List HV} {m:List UInt8→Bag}
mutual
theorem layN_h (M:MeanOk mf mk mcaps mcs m) (e:List Pt) (he:e.length≤100000):∀ (t:T) (b:Nat),t.ok=true→AtP e b (T.flat b t)→LayN (.fn (.func mf) mk mcaps) m e b t
  | .name s,b,hok,hat=>lay_one mf mk mcaps mcs M.len M.cap M.fz M.ff m M.h M.ok e he b (.name s) hok hat (Nat.zero_le _) (fun i hi=>absurd hi (Nat.not_lt_zero _))
  | .times lo hi t, b, hok, hat => by
    have hok':t.ok=true:=by simp only [T.ok,Bool.and_eq_true] at hok;exact hok.2
    refine lay_one mf mk mcaps mcs M.len M.cap M.fz M.ff m M.h M.ok e he b (.times lo hi t) hok hat (by simp [T.kidsT]) (fun i hi=>?_)
    obtain rfl:i=0:=by simpa [T.kidsT] using hi
    have:=layN_h M e he t b hok' (by simp only [T.flat] at hat;exact atP_left hat)
    simpa [T.kidsT,T.sizeL] using this
  | .many k ts, b, hok, hat => by
    have hok':T.okL ts=true:=by simp only [T.ok,Bool.and_eq_true] at hok;exact hok.2
    have hkl:(T.many k ts).kidsT.length≤100000:=by
      have:=kids_few2 (t:=.many k ts);have:=(at_top hat).2;omega
    exact lay_one mf mk mcaps mcs M.len M.cap M.fz M.ff m M.h M.ok e he b (.many k ts) hok hat hkl (fun i hi=>layNL_h M e he ts hok' i hi _ (kids_at' hat hi))
theorem layNL_h (M:MeanOk mf mk mcaps mcs m) (e:List Pt) (he:e.length≤100000):∀ ts:List T,T.okL ts=true→∀ i,i < ts.length→∀ b,AtP e b (T.flat b (ts.getD i default))→LayN (.fn (.func mf) mk mcaps) m e b (ts.getD i default)
  | [],_,i,hi=>absurd hi (Nat.not_lt_zero _)
  | t :: ts, hok, i, hi => fun b hat => by
    simp only [T.okL,Bool.and_eq_true] at hok
    cases i with
    | zero=>exact layN_h M e he t b hok.1 hat
    | succ i=>exact layNL_h M e he ts hok.2 i (by simpa using hi) b (by simpa using hat)
end
end
deriving instance DecidableEq for Bag
theorem run_eqarr (w:World) (a0 a1 a2 a3 b0 b1 b2 b3:Nat) (d:Nat):(Op.equalIn (d+2) 31 (.agg #[.int .u64 a0,.int .u64 a1,.int .u64 a2,.int .u64 a3]) (.agg #[.int .u64 b0,.int .u64 b1,.int .u64 b2,.int .u64 b3])).run Tryz.prog w=.ok (decide (a0=b0∧a1=b1∧a2=b2∧a3=b3)) w:=by
 unfold Op.equalIn
 simp only [Sem.run_bind,run_underlying Tryz.underlying31,Result.andThen_ok]
 simp [List.range',part,go_sem]
 simp only [Int.natCast_inj]
 by_cases h0:a0=b0 <;> by_cases h1:a1=b1 <;> by_cases h2:a2=b2 <;> by_cases h3:a3=b3 <;> simp [h0,h1,h2,h3]
theorem run_eqbag (w:World) (s t:Bag) (d:Nat):(Op.equalIn (d+3) 33 (.agg s.cells.toArray) (.agg t.cells.toArray)).run Tryz.prog w=.ok (decide (s=t)) w:=by
 simp [Bag.cells,go_sem]
 rw [run_eqarr]
 simp only [Result.andThen_ok]
 cases s;cases t
 simp only [Bag.mk.injEq]
 split <;> simp_all
theorem bag_inv4 {w:World} {E:Env} {v:Value} {x:Bag} {f:Nat→HV} (hf:∀ j,j < 4→f j=bagF x j) (h:Rep w E v (.agg 4 f)):v=.agg x.cells.toArray:=by
 refine bag_inv (w:=w) (E:=E) ?_
 cases h with
 | agg cs _ _ vs hn hv h=>exact .agg cs 4 _ vs hn hv (fun i hi=>by rw [←hf i hi];exact h i hi)
section
variable {ov:Nat→Option HV} {g:Nat} {d:Option Tmp} {ty:TypeId} {pos:String} {af:Array Edge} {gd:Option (Nat×Bool)} {T yT:TypeId} {x y:Operand}
theorem hop_eql_bag (s t:Bag) {f1 f2:Nat→HV} (hT:T=33) (h1:ovl ov x=some (.agg 4 f1)) (h2:ovl ov y=some (.agg 4 f2)) (hf1:∀ j,j < 4→f1 j=bagF s j) (hf2:∀ j,j < 4→f2 j=bagF t j) :
  HOp Tryz.prog ⟨d,.binOp .eql T x y yT,ty,pos,af,gd⟩ ov g [] (.imm (.bool (decide (s=t)))) [] :=
 hop_pure fun w E ρ hr=>by
  have hG:Tryz.prog.eqGuardType Tryz.prog.depth 33=false:=by kernel_rfl
  subst hT
  have e1:=bag_inv4 hf1 (hr x _ (by simp [Op.operands]) h1)
  have e2:=bag_inv4 hf2 (hr y _ (by simp [Op.operands]) h2)
  refine ⟨_,?_,.imm _⟩
  have hg:(eqGuard .eql 33 x y (.agg s.cells.toArray) (.agg t.cells.toArray)).run Tryz.prog w=.ok () w:=by
   simp [eqGuard,program,Sem.run,hG,Sem.run_bind]
  have hT:(binOp .eql 33 (.agg s.cells.toArray) (.agg t.cells.toArray)).run Tryz.prog w=.ok (.bool (decide (s=t))) w:=by
   simp only [run_eql_struct,run_eqbag w s t 9997,Result.andThen_ok]
  simp only [execOp,e1,e2,Sem.run_bind,hg,Result.andThen_ok,hT,Sem.run_pure]
theorem hop_neq_bag (s t:Bag) {f1 f2:Nat→HV} (hT:T=33) (h1:ovl ov x=some (.agg 4 f1)) (h2:ovl ov y=some (.agg 4 f2)) (hf1:∀ j,j < 4→f1 j=bagF s j) (hf2:∀ j,j < 4→f2 j=bagF t j) :
  HOp Tryz.prog ⟨d,.binOp .neq T x y yT,ty,pos,af,gd⟩ ov g [] (.imm (.bool (!decide (s=t)))) [] :=
 hop_pure fun w E ρ hr=>by
  have hG:Tryz.prog.eqGuardType Tryz.prog.depth 33=false:=by kernel_rfl
  subst hT
  have e1:=bag_inv4 hf1 (hr x _ (by simp [Op.operands]) h1)
  have e2:=bag_inv4 hf2 (hr y _ (by simp [Op.operands]) h2)
  refine ⟨_,?_,.imm _⟩
  have hg:(eqGuard .neq 33 x y (.agg s.cells.toArray) (.agg t.cells.toArray)).run Tryz.prog w=.ok () w:=by
   simp [eqGuard,program,Sem.run,hG,Sem.run_bind]
  have hT:(binOp .neq 33 (.agg s.cells.toArray) (.agg t.cells.toArray)).run Tryz.prog w=.ok (.bool (!decide (s=t))) w:=by
   simp only [run_neq_struct,run_eqbag w s t 9997,Result.andThen_ok]
  simp only [execOp,e1,e2,Sem.run_bind,hg,Result.andThen_ok,hT,Sem.run_pure]
end
section
variable {mf:FuncId} {mk:Nat} {mcaps:Nat→HV} {mcs:List HV} {m:List UInt8→Bag}
theorem new1_h (M:MeanOk mf mk mcaps mcs m) (s:List UInt8) (hs:nameV s=true):HPure Tryz.prog 35 ([strV s]++[.fp 1 (fun _=>.fn (.func mf) mk mcaps)]) (boolV (decide (m s=Bag.zero))):=by
 show HPure _ _ [strV s,.fp 1 (fun _=>.fn (.func mf) mk mcaps)] _
 refine hpure_of Tryz.func35 rfl kr _ _ _ rfl 9 rfl rfl (fun w F=>?_)
 refine srg fun N h1=>sa<|snl h1<|srg fun N h2=>?_
 refine s0 (hlf ty_35) ?_
 refine sm ?_
 refine s0 (hop_callv0 (xs:=[_]) (cs:=mcs) (M.h s hs) rfl M.len M.cap ⟨rfl,trivial⟩ ⟨(show Fz [] (strV s) (strV s) from Frz.fz),M.fz⟩) ?_
 refine s0 (hop_build (hs:=[]) st_33 rfl rfl trivial) ?_
 refine s0 (hop_eql_bag (m s) Bag.zero rfl rfl rfl (by exact j4 rfl rfl rfl rfl) (by exact j4 rfl rfl rfl rfl)) ?_
 refine sa<|snl h2<|hw_ret ?_
 refine hq_ret1 rfl (rval_tmp rfl) [] rfl pre0 ?_
 exact Frz.fz
theorem getD_i {l:List (List UInt8)} {i:Nat} (h:i < l.length):l.getD i []=l[i]:=by rw [List.getD_eq_getElem?_getD,List.getElem?_eq_getElem h];rfl
theorem fidx_some {q:List UInt8→Bool} {l:List (List UInt8)} {i:Nat} (hi:i < l.length) (h:q (l.getD i [])=true) (hno:∀ j,j < i→q (l.getD j [])=false):l.findIdx? q=some i:=by
 rw [List.findIdx?_eq_some_iff_getElem]
 refine ⟨hi,by rw [←getD_i hi];exact h,fun j hj=>?_⟩
 rw [←getD_i (by omega:j < l.length),hno j hj];simp
theorem fidx_none {q:List UInt8→Bool} {l:List (List UInt8)} (hno:∀ j,j < l.length→q (l.getD j [])=false):l.findIdx? q=none:=by
 rw [List.findIdx?_eq_none_iff]
 intro x hx
 obtain ⟨j,hj,rfl⟩:=List.mem_iff_getElem.1 hx
 rw [←getD_i hj];exact hno j hj
theorem fidx_any (q:List UInt8→Bool) (l:List (List UInt8)):decide ((match l.findIdx? q with | some i=>(i:Int) | none=>-1)≥0)=l.any q:=by
  cases h:l.findIdx? q with
  | none =>
    rw [List.findIdx?_eq_none_iff] at h
    simp only
    have:l.any q=false:=by rw [List.any_eq_false];intro x hx;rw [h x hx];simp
    rw [this];rfl
  | some i =>
    rw [List.findIdx?_eq_some_iff_getElem] at h
    obtain ⟨hi,hq,_⟩:=h
    have:l.any q=true:=List.any_eq_true.2 ⟨l[i],List.getElem_mem hi,hq⟩
    rw [this]
    simp
theorem indexf_h (f:FuncId) (k:Nat) (caps:Nat→HV) (cs:List HV) (q:List UInt8→Bool) (hk:cs.length=k) (hi:∀ i,i < k→cs[i]?=some (caps i)) (hz:FzAll [] cs cs) (l:List (List UInt8)) (hl:l.length≤1000000) (hq:∀ s∈l,HPure Tryz.prog f ([strV s]++cs) (boolV (q s))) :
  HPure Tryz.prog 63 [nmsV l,.fn (.func f) k caps] (intV (match l.findIdx? q with | some i=>(i:Int) | none=>-1)):=by
 refine hpure_of Tryz.func63 rfl kr _ _ _ rfl 19 rfl rfl (fun w F=>?_)
 refine srg fun N h1=>sa<|snl h1<|hw_seq fun Nh2 h2=>srg fun N h3=>sm ?_
 refine s0 (hnl el_66) ?_
 refine sm<|snl h3<|hw_block ?_
 refine hw_loopc (α:=Nat) (fun x c=>⟨19,[(0,.v (nmsV l)),(1,.v (.fn (.func f) k caps)),(7,.v (intV l.length)),(8,.v (intV (x:Int)))],[],c⟩) (fun x=>x≤l.length∧∀ j,j < x→q (l.getD j [])=false) (fun x=>l.length - x) (0) (by exact ⟨Nat.zero_le _,fun j hj=>absurd hj (Nat.not_lt_zero _)⟩) (hsub_of rfl (Nat.le_refl _) tsa HpSub.nil) (fun i c hx NhL4 hL4=>?_)
 (try dsimp only at hx hL4 ⊢)
 obtain ⟨hil,hno⟩:=hx
 refine srg fun N h5=>?_
 refine s0 hli ?_
 refine snl h5<|hw_seq fun Nh6 h6=>?_
 refine wc (fun hc0=>?_) (fun hc0=>?_)
 ·have hr0:=hc0;(try simp only [hcs,Int.reduceToNat] at hc0)
  refine hw_skip<|h6 _<|hw_seq fun Nh7 h7=>hw_block<|srg fun N h8=>sm<|sa<|snl h8<|srg fun N h9=>sm<|sm<|sm ?_
  refine s0 (hix el_66) ?_
  refine s0 (hlf ty_9) ?_
  refine s0 (hop_callv0 (xs:=[_]) (cs:=cs) (hq (l.getD i []) (by rw [getD_i om];exact List.getElem_mem _)) rfl hk hi ⟨rfl,trivial⟩ ⟨(show Fz [] (strV (l.getD i [])) (strV (l.getD i [])) from Frz.fz),hz⟩) ?_
  refine snl h9 ?_
  refine wc (fun hc1=>?_) (fun hc1=>?_)
  ·have hr1:=hc1;(try simp only [hcs,Int.reduceToNat] at hc1)
   refine srg fun N h10=>sm<|sa<|snl h10<|hw_ret<|hq_block_ret<|hq_then_ret<|hq_then_ret<|hq_block_ret<|hq_then_ret ?_
   refine hq_ret1 rfl (rval_tmp rfl) [] rfl pre0 ?_
   rw [fidx_some om hc1 hno];exact .imm _
  have hr1:=hc1;(try simp only [hcs,Int.reduceToNat] at hc1)
  refine hw_skip<|hq_block<|h7 _<|hw_region ?_
  refine s0 hai ?_
  refine sm<|hseq_nil ?_
  exact hL4 (i+1) _ _ (by (try dsimp only);exact ⟨by omega,fun j hj=>by rcases Nat.lt_or_ge j i with h | h;exact hno j h;obtain rfl:j=i:=om;exact hc1⟩) (by (try dsimp only);omega) (hsub_of rfl (Nat.le_refl _) tsa HpSub.nil)
 have hr0:=hc0;(try simp only [hcs,Int.reduceToNat] at hc0)
 refine hw_exit ?_
 refine hq_then_exit<|hq_then_exit<|hq_block_here<|h2 _<|srg fun N h11=>sa<|snl h11<|hw_ret ?_
 refine hq_ret1 rfl (rval_tmp rfl) [] rfl pre0 ?_
 rw [fidx_none (fun j hj=>hno j om)];exact .imm _
theorem containsf_h (f:FuncId) (k:Nat) (caps:Nat→HV) (cs:List HV) (q:List UInt8→Bool) (hk:cs.length=k) (hi:∀ i,i < k→cs[i]?=some (caps i)) (hz:FzAll [] cs cs) (hff:∀ sh,Fz sh (.fn (.func f) k caps) (.fn (.func f) k caps)) (l:List (List UInt8)) (hl:l.length≤1000000) (hq:∀ s∈l,HPure Tryz.prog f ([strV s]++cs) (boolV (q s))) :
  HPure Tryz.prog 33 [nmsV l,.fn (.func f) k caps] (boolV (l.any q)):=by
 refine hpure_of Tryz.func33 rfl kr _ _ _ rfl 9 rfl rfl (fun w F=>?_)
 refine srg fun N h1=>sa<|snl h1<|srg fun N h2=>sm<|sm ?_
 refine s0 (hop_call0 (xs:=[_,_]) (indexf_h f k caps cs q hk hi hz l hl hq) ⟨rfl,⟨rfl,trivial⟩⟩ ⟨fe,⟨(hff _),trivial⟩⟩) ?_
 refine s0 (hop_geq rfl rfl) ?_
 refine sa<|snl h2<|hw_ret ?_
 refine hq_ret1 rfl (rval_tmp rfl) [] rfl pre0 ?_
 rw [←fidx_any];exact .imm _
end
end Go.Proofs.YtldjnmljnlhaaaaGreatDoor
