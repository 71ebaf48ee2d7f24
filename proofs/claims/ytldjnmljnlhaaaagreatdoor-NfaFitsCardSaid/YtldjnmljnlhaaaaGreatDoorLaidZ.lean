/-
  Relations: from each place to itself; one behind the other; one or the other.
-/
import Derived.Test.YtldjnmljnlhaaaaGreatDoorNf1
import Derived.Test.YtldjnmljnlhaaaaGreatDoorNfaV
import Derived.Test.YtldjnmljnlhaaaaGreatDoorNb11
import Derived.Test.YtldjnmljnlhaaaaGreatDoorHc
import Derived.Test.YtldjnmljnlhaaaaGreatDoorChecked
import Derived.ProofKit
import Derived.OpenShut
import Derived.ChangeOld
import Derived.Deep.Slices
import Derived.Test.YtldjnmljnlhaaaaGreatDoorRows
import Derived.LaidLaws
import Derived.LaidMore
import Derived.LaidSub
import Derived.HandedShaped
import Derived.Shelf.Vars
import Derived.Stop.Joined
namespace Go.Proofs.YtldjnmljnlhaaaaGreatDoor
set_option linter.unusedSimpArgs false
set_option linter.unusedVariables false
set_option maxRecDepth 100000
set_option maxHeartbeats 1000000
open Go.RowKit
theorem hsub_borrow2 {C:Ctx} {n clk:Nat} {tm:List (Nat×TV)} (o id b i N go g m sz:Nat) (ty ty2:TypeId) (f:Nat→Nat→HV) (L:List (Nat×HObj)) (ob:Nat→HObj) (hoi:ob i=⟨g,m,sz,ty2,0,f⟩) (hi:i < N) (hob:o < b) (hid:id < b) (hne:id≠o) (hL:under b id L=true) {c':Nat} (hc:clk+1=c') :
  HSub C ⟨n,tm,(o,⟨go,N,1,ty,0,famF b ob⟩)::(L++famP b ob (fun _=>true) N),clk⟩ ⟨n,tm,(o,⟨go,N,1,ty,0,famB b ob i id clk m⟩)::(id,⟨clk,m,sz,ty2,0,f⟩)::(L++famP b ob (fun k=>k != i) N),c'⟩:=by
 subst hc
 have:=hsub_borrow (C:=C) (n:=n) (clk:=clk) (tm:=tm) o id b i N go ty L ob hi hob hid hne hL (by rw [hoi];exact Nat.zero_le _)
 rw [hoi] at this
 exact this
theorem famB_at {b i id c m:Nat} {ob:Nat→HObj}:famB b ob i id c m (0+(i:Int).toNat) 0=.os id c 0 m:=by
 show (if 0+i=i then _ else _)=_
 rw [if_pos (Nat.zero_add i)]
theorem fz_rel {go n:Nat} {ob:Nat→HObj} {f:Nat→Nat→Bool} (h:RowsB n n f ob):Fz (relL go n ob) (.os 9306 go 0 n) (relH n f):=by
 refine Fz.os 9306 go 0 n (reO go n (famF 10000 ob)) _ (List.mem_cons_self ..) rfl (by show 0+n≤n;omega) (fun i j hi hj=>?_)
 obtain ⟨g,hh,e,hf⟩:=h i hi
 show Fz _ (.os (10000+(0+i)) (ob (0+i)).g 0 (ob (0+i)).n) (.sl 1 n (boF (f i)))
 have hm:=fam_mem (b:=10000) (ob:=ob) hi
 rw [Nat.zero_add]
 rw [e] at hm
 rw [e]
 refine Fz.os (10000+i) g 0 n (boO g n hh) _ (List.mem_cons_of_mem _ hm) rfl (by show 0+n≤n;omega) (fun p q hp hq=>?_)
 show Fz _ (boolV (hh (0+p))) (boolV (f i p))
 rw [Nat.zero_add,hf p hp];exact .imm _
theorem rel_get {go n:Nat} {ob:Nat→HObj}:∀ p∈relL go n ob,hget (relL go n ob) p.1=some p.2 :=
 fam_getc rfl (fun k hk=>by rw [hget_skip rfl];exact hget_fam_at hk)
theorem rows_fup {n i:Nat} {f f':Nat→Nat→Bool} {ob:Nat→HObj} {g:Nat} {h:Nat→Bool} (hr:RowsB n n f ob) (h1:∀ j,j < n→h j=f' i j) (h2:∀ k j,k < n→j < n→k≠i→f k j=f' k j):RowsB n n f' (fup ob i (boO g n h)):=fun k hk=>by
 unfold fup
 by_cases e:k=i
 ·subst e;rw [if_pos rfl];exact ⟨_,_,rfl,h1⟩
 ·rw [if_neg e]
  obtain ⟨g',h',e',hh⟩:=hr k hk
  exact ⟨g',h',e',fun j hj=>by rw [hh j hj,h2 k j hk hj e]⟩
theorem rsame_h (n:Nat) (hn:n≤1000):HPure Tryz.prog 52 [intV (n:Int)] (relH n (fun i j=>decide (i=j))):=by
 refine hpure_of Tryz.func52 rfl kr _ _ _ rfl 19 rfl rfl (fun w F=>?_)
 refine srg fun N h1=>sa<|snl h1<|srg fun N h2=>sm ?_
 refine hf_callR 6 (xs:=[_]) (pre:=[]) (rnone_h n hn _) ⟨rfl,trivial⟩ pre0 rfl rfl (fun x1 c1 hrb=>?_)
 obtain ⟨go,ob0⟩:=x1
 (try dsimp only)
 refine sa<|snl h2<|hw_seq fun Nh3 h3=>srg fun N h4=>sa<|snl h4<|hw_block ?_
 refine hw_loopc (α:=Nat×(Nat→HObj)) (fun x c=>⟨19,[(0,.v (intV (n:Int))),(3,.v (.os 9306 go 0 n)),(4,.v (intV (x.1:Int)))],((9306,reO go n (famF 10000 x.2))::famP 10000 x.2 (fun _=>true) n),c⟩) (fun x=>x.1≤n∧RowsB n n (fun k j=>decide (k < x.1)&&decide (k=j)) x.2) (fun x=>n - x.1) ((0,ob0)) (by exact ⟨Nat.zero_le _,fun k hk=>by obtain ⟨g,h,e,hh⟩:=hrb k hk;exact ⟨g,h,e,fun j hj=>by rw [hh j hj];simp⟩⟩) (hsub_of rfl (Nat.le_refl _) tsa (hsr rfl (by repeat (first | exact HpSub.refl _ | exact hpSub_nil | refine HpSub.skip ?_ rfl)))) (fun x c hx NhL5 hL5=>?_)
 revert hx hL5;obtain ⟨i,ob⟩:=x;intro hx hL5;dsimp only at hx hL5 ⊢
 obtain ⟨hi,hrw⟩:=hx
 refine hw_seq fun Nh6 h6=>srg fun N h7=>sm<|sm ?_
 refine s0 hli ?_
 refine snl h7 ?_
 refine wc (fun hc0=>?_) (fun hc0=>?_)
 ·have hr0:=hc0;(try simp only [hcs,Int.reduceToNat] at hc0)
  have hin:i < n:=om;obtain ⟨gi,hi',hoi,hhi⟩:=hrw i hin
  refine hw_skip<|h6 _<|hw_seq fun Nh8 h8=>hw_block ?_
  refine (hsub_borrow2 9306 9377 10000 i n go gi n 1 _ _ (boF hi') [] ob hoi hin (by decide) (by decide) (by decide) rfl (c':=c+1) rfl).wp ?_
  refine hw_region<|sm<|sm ?_
  refine st1 (hol_ia_os el_94 rfl rfl om om) rfl rfl rfl ?_
  refine st1 (HOp.val (v':=HV.os 9377 c 0 n) (hol_load ty_97 rfl (by omega) (nb rfl) (fun h=>(by rfl))) ((by exact famB_at))) rfl rfl rfl ?_
  refine sm ?_
  refine st1 (hol_ia_os el_97 rfl rfl om om) rfl rfl rfl ?_
  refine hm_s1 (hol_store ty_4 rfl rfl rfl rfl om (nb rfl) (nb rfl)) rfl rfl (pre1 rfl) (c':=c+2) rfl ?_
  refine hseq_nil<|hq_block<|h8 _<|hw_region<|sm ?_
  refine s0 hai ?_
  refine sa<|hseq_nil ?_
  exact hL5 ((i+1,fup ob i (boO (c+2) n (fun j=>decide (i=j))))) _ _ (by (try dsimp only);exact ⟨by omega,rows_fup hrw (fun j hj=>by simp) (fun k j hk hj e=>by have:(k < i)=(k < i+1):=(by apply propext;omega);simp only [this])⟩) (by (try dsimp only);omega) (HSub.trans (hsub_hp (HpSub.cons (o':=reO go n (famB 10000 ob i 9377 c n)) rfl (OSub.refl _) (HpSub.cons (o':=boO c n (fun j=>decide (i=j))) rfl (OSub.of fun k j hk hj=>by obtain rfl:j=0:=om;rw [upd1_at];by_cases e:k=i;(subst e;rw [if_pos (by simp)];show Sb (boolV true) (boolV (decide (k=k)));rw [decide_eq_true rfl];exact .refl _);(rw [if_neg (by simpa using e)];show Sb (boolV (hi' k)) (boolV (decide (i=k)));rw [hhi k hk,decide_eq_false (fun h=>e h.symm)];simp;exact .refl _)) (by repeat (first | exact HpSub.refl _ | refine HpSub.skip ?_ rfl))))) (HSub.trans (hsub_back 9306 9377 10000 i n go c n 1 0 _ _ (boF (fun j=>decide (i=j))) [] ob hin (by decide) (by decide) (by decide) rfl) (hsub_of rfl (Nat.le_refl _) tsa (HpSub.refl _))))
 have hr0:=hc0;(try simp only [hcs,Int.reduceToNat] at hc0)
 have hin:i=n:=om
 refine hw_exit ?_
 refine hq_then_exit<|hq_then_exit<|hq_block_here<|h3 _<|srg fun N h9=>sm<|sa<|snl h9<|hw_ret ?_
 exact hq_ret1 rfl (rval_tmp rfl) (relL go n ob) (fam_dupc (by decide) n) rel_get (fz_rel (fun k hk=>by obtain ⟨g,h,e,hh⟩:=hrw k hk;exact ⟨g,h,e,fun j hj=>by rw [hh j hj];simp;omega⟩))
def thenK (r x:Nat→Nat→Bool) (i k j:Nat):Bool:=(List.range k).any (fun q=>r i q&&x q j)
theorem thenK_succ (r x:Nat→Nat→Bool) (i k j:Nat):thenK r x i (k+1) j=(thenK r x i k j||(r i k&&x k j)):=by
 unfold thenK;rw [List.range_succ,List.any_append];simp
@[reducible] def thenB (n:Nat) (r x:Nat→Nat→Bool):Nat→Nat→Bool:=fun i j=>thenK r x i n j
theorem osub_bo {g n:Nat} {F:Nat→Nat→HV} {h:Nat→Bool} (hF:∀ k,k < n→F k 0=boolV (h k)):OSub ⟨g,n,1,4,0,F⟩ (boO g n h):=OSub.of fun k j hk hj=>by
 obtain rfl:j=0:=by omega
 rw [hF k hk];exact .refl _
theorem rthen_h (n:Nat) (hn:n≤1000) (r y:Nat→Nat→Bool):HPure Tryz.prog 53 [relH n r,relH n y] (relH n (thenB n r y)):=by
 refine hpure_of Tryz.func53 rfl kr _ _ _ rfl 61 rfl rfl (fun w F=>?_)
 refine srg fun N h1=>sa<|snl h1<|srg fun N h2=>sm ?_
 refine s0 (hnl el_94) ?_
 refine sa<|snl h2<|srg fun N h3=>sm ?_
 refine hf_callR 13 (xs:=[_]) (pre:=[]) (rnone_h n hn _) ⟨rfl,trivial⟩ pre0 rfl rfl (fun x1 c1 hrb=>?_)
 obtain ⟨go,ob0⟩:=x1
 (try dsimp only)
 refine sa<|snl h3<|hw_seq fun Nh4 h4=>srg fun N h5=>sa<|snl h5<|hw_block ?_
 refine hw_loopc (α:=Nat×(Nat→HObj)) (fun x c=>⟨61,[(0,.v (relH n r)),(1,.v (relH n y)),(5,.v (intV (n:Int))),(6,.v (.os 9306 go 0 n)),(7,.v (intV (x.1:Int)))],((9306,reO go n (famF 10000 x.2))::famP 10000 x.2 (fun _=>true) n),c⟩) (fun x=>x.1≤n∧RowsB n n (fun a b=>decide (a < x.1)&&thenB n r y a b) x.2) (fun x=>n - x.1) ((0,ob0)) (by exact ⟨Nat.zero_le _,fun k hk=>by obtain ⟨g,h,e,hh⟩:=hrb k hk;exact ⟨g,h,e,fun j hj=>by rw [hh j hj];simp⟩⟩) (hsub_of rfl (Nat.le_refl _) tsa (hsr rfl (by repeat (first | exact HpSub.refl _ | exact hpSub_nil | refine HpSub.skip ?_ rfl)))) (fun x c hx NhL6 hL6=>?_)
 revert hx hL6;obtain ⟨i,ob⟩:=x;intro hx hL6;dsimp only at hx hL6 ⊢
 obtain ⟨hi,hrw⟩:=hx
 refine hw_seq fun Nh7 h7=>srg fun N h8=>sm<|sm ?_
 refine s0 hli ?_
 refine snl h8 ?_
 refine wc (fun hc0=>?_) (fun hc0=>?_)
 ·have hr0:=hc0;(try simp only [hcs,Int.reduceToNat] at hc0)
  have hin:i < n:=om;obtain ⟨gi,hi',hoi,hhi⟩:=hrw i hin;let c0:=c
  refine hw_skip<|h7 _<|hw_seq fun Nh9 h9=>hw_block<|hw_seq fun Nh10 h10=>?_
  refine (hsub_borrow2 9306 9377 10000 i n go gi n 1 _ _ (boF hi') [] ob hoi hin (by decide) (by decide) (by decide) rfl (c':=c+1) rfl).wp ?_
  refine hw_region<|sa<|snl h10<|hw_block ?_
  refine hw_loopc (α:=Nat) (fun x c=>⟨61,[(0,.v (relH n r)),(1,.v (relH n y)),(5,.v (intV (n:Int))),(6,.v (.os 9306 go 0 n)),(7,.v (intV (i:Int))),(8,.v (intV (x:Int)))],((9306,reO go n (famB 10000 ob i 9377 c0 n))::(9377,boO c0 n (thenK r y i x))::famP 10000 ob (fun x=>x != i) n),c⟩) (fun x=>x≤n) (fun x=>n - x) (0) om (hsub_of rfl (Nat.le_refl _) tsa (hsr rfl (HpSub.cons rfl (osub_bo fun j hj=>by show boolV (hi' j)=_;rw [hhi j hj];simp [thenK]) (by repeat (first | exact HpSub.refl _ | exact hpSub_nil | refine HpSub.skip ?_ rfl))))) (fun k c hx NhL11 hL11=>?_)
  (try dsimp only at hx hL11 ⊢)
  refine hw_seq fun Nh12 h12=>srg fun N h13=>sm<|sm ?_
  refine s0 hli ?_
  refine snl h13 ?_
  refine wc (fun hc1=>?_) (fun hc1=>?_)
  ·have hr1:=hc1;(try simp only [hcs,Int.reduceToNat] at hc1)
   have hkn:k < n:=om
   refine hw_skip<|h12 _<|hw_seq fun Nh14 h14=>hw_block<|srg fun N h15=>sa<|snl h15<|hw_block ?_
   refine hw_loopc (α:=Nat) (fun x c=>⟨61,[(0,.v (relH n r)),(1,.v (relH n y)),(5,.v (intV (n:Int))),(6,.v (.os 9306 go 0 n)),(7,.v (intV (i:Int))),(8,.v (intV (k:Int))),(9,.v (intV (x:Int)))],((9306,reO go n (famB 10000 ob i 9377 c0 n))::(9377,boO c0 n (fun q=>if q < x then thenK r y i (k+1) q else thenK r y i k q))::famP 10000 ob (fun k=>k != i) n),c⟩) (fun x=>x≤n) (fun x=>n - x) (0) om (hsub_of rfl (Nat.le_refl _) tsa (hsr rfl (HpSub.cons rfl (osub_bo fun q hq=>by show boolV _=_;rw [if_neg (Nat.not_lt_zero _)]) (by repeat (first | exact HpSub.refl _ | exact hpSub_nil | refine HpSub.skip ?_ rfl))))) (fun j c hx NhL16 hL16=>?_)
   (try dsimp only at hx hL16 ⊢)
   refine hw_seq fun Nh17 h17=>srg fun N h18=>sm<|sm ?_
   refine s0 hli ?_
   refine sm ?_
   refine gm 27 ?_
   refine gm 27 ?_
   refine stg 27 (fun hb=>hop_ia_sl el_94 rfl rfl (by simp at hb;exact omx) (by simp at hb;exact omx) (nb rfl)) rfl rfl rfl rfl rfl ?_
   refine stg 27 (fun hb=>hop_load_fp ty_97 rfl (nb rfl) rq) rfl rfl rfl rfl rfl ?_
   refine gm 27 ?_
   refine stg 27 (fun hb=>hop_ia_sl el_97 rfl rfl (by simp at hb;exact omx) (by simp at hb;exact omx) (nb rfl)) rfl rfl rfl rfl rfl ?_
   refine stg 27 (fun hb=>hop_load_fp ty_4 rfl (nb rfl) rq) rfl rfl rfl rfl rfl ?_
   refine hq_p 35 (hstep_and _ _ rfl rfl rfl) rfl rfl rfl ?_
   refine nu ?_
   refine h18 _ ?_
   refine wc (fun hc2=>?_) (fun hc2=>?_)
   ·have hr2:=hc2;(try simp only [hcs,Int.reduceToNat] at hc2)
    have hjn:j < n:=om;have hrk:r i k=true:=hc2.2
    refine hw_skip<|h17 _<|hw_seq fun Nh19 h19=>hw_block<|hd_start ?_
    refine dm 1 ?_
    refine dm 2 ?_
    refine hd_q 40 (hol_ia_os el_94 rfl rfl om om) rfl rfl (pre1 rfl) rfl rfl (k':=3) rfl ?_
    refine hd_q 41 (HOp.val (v':=HV.os 9377 c0 0 n) (hol_load ty_97 rfl (by omega) (nb rfl) (fun h=>(by rfl))) ((by exact famB_at))) rfl rfl (pre1 rfl) rfl rfl (k':=4) rfl ?_
    refine dm 5 ?_
    refine dm 6 ?_
    refine dm 7 ?_
    refine hd_q 45 (hol_ia_os el_94 rfl rfl om om) rfl rfl (pre1 rfl) rfl rfl (k':=8) rfl ?_
    refine hd_q 46 (HOp.val (v':=HV.os 9377 c0 0 n) (hol_load ty_97 rfl (by omega) (nb rfl) (fun h=>(by rfl))) ((by exact famB_at))) rfl rfl (pre1 rfl) rfl rfl (k':=9) rfl ?_
    refine dm 10 ?_
    refine hd_q 48 (hol_ia_os el_97 rfl rfl om om) rfl rfl (pre1 rfl) rfl rfl (k':=11) rfl ?_
    refine hd_q 49 (HOp.val (v':=boolV (thenK r y i k j)) (hol_load ty_4 rfl (by omega) (nb rfl) (fun h=>(by rfl))) ((by show boolV (if 0+j < j then _ else _)=_;rw [if_neg (by omega),Nat.zero_add];rfl))) rfl rfl (pre1 rfl) rfl rfl (k':=12) rfl ?_
    refine dm 13 ?_
    refine hd_g 51 12 50 false _ (fun hb=>hop_move rfl) rfl rfl rfl rfl pre0 rfl rfl rfl (k':=14) rfl ?_
    refine hd_g 52 12 50 false _ (fun hb=>hop_move rfl) rfl rfl rfl rfl pre0 rfl rfl rfl (k':=15) rfl ?_
    refine hd_g 53 12 50 false _ (fun hb=>hop_ia_sl el_94 rfl rfl om om (nb rfl)) rfl rfl rfl rfl pre0 rfl rfl rfl (k':=16) rfl ?_
    refine hd_g 54 12 50 false _ (fun hb=>hop_load_fp ty_97 rfl (nb rfl) rq) rfl rfl rfl rfl pre0 rfl rfl rfl (k':=17) rfl ?_
    refine hd_g 55 12 50 false _ (fun hb=>hop_move rfl) rfl rfl rfl rfl pre0 rfl rfl rfl (k':=18) rfl ?_
    refine hd_g 56 12 50 false _ (fun hb=>hop_ia_sl el_97 rfl rfl om om (nb rfl)) rfl rfl rfl rfl pre0 rfl rfl rfl (k':=19) rfl ?_
    refine hd_g 57 12 50 false _ (fun hb=>hop_load_fp ty_4 rfl (nb rfl) rq) rfl rfl rfl rfl pre0 rfl rfl rfl (k':=20) rfl ?_
    refine hd_p 58 (hstep_or _ _ rfl rfl rfl) rfl rfl rfl (k':=21) rfl ?_
    refine hd_q 59 (hol_ia_os el_97 rfl rfl om om) rfl rfl (pre1 rfl) rfl rfl (k':=22) rfl ?_
    refine hd_s1 (hol_store ty_4 rfl rfl rfl rfl om (nb rfl) (nb rfl)) rfl rfl (pre1 rfl) (k':=23) rfl ?_
    refine hd_nil kr kr (c':=c+23) rfl ?_
    refine hq_block<|h19 _<|hw_region<|sm ?_
    refine s0 hai ?_
    refine sa<|hseq_nil ?_
    exact hL16 (j+1) _ _ (by (try dsimp only);omega) (by (try dsimp only);omega) (hsub_of rfl (Nat.le_refl _) tsa (hsr rfl (HpSub.cons rfl (osub_bo fun q hq=>by rw [upd1_at];by_cases e:q=j;(subst e;rw [if_pos (by simp)];show boolV (thenK r y i k q||y k q)=boolV (if q < q+1 then _ else _);rw [if_pos (Nat.lt_succ_self q),thenK_succ,hrk,Bool.true_and]);(rw [if_neg (by simpa using e)];show boolV (if q < j then _ else _)=_;by_cases h:q < j;(rw [if_pos h,if_pos om]);(rw [if_neg h,if_neg om]))) (by repeat (first | exact HpSub.refl _ | exact hpSub_nil | refine HpSub.skip ?_ rfl)))))
   have hr2:=hc2;(try simp only [hcs,Int.reduceToNat] at hc2)
   refine hw_exit ?_
   refine hq_then_exit<|hq_then_exit<|hq_block_here<|hq_block<|h14 _<|hw_region<|sm ?_
   refine s0 hai ?_
   refine sa<|hseq_nil ?_
   exact hL11 (k+1) _ _ (by (try dsimp only);omega) (by (try dsimp only);omega) (hsub_of rfl (Nat.le_refl _) tsa (hsr rfl (HpSub.cons rfl (osub_bo fun q hq=>by show boolV (if q < j then _ else _)=_;rcases Nat.lt_or_ge j n with h | h;(have hrk:r i k=false:=(by have h2:=hr2;rw [decide_eq_true om,Bool.true_and,Int.toNat_natCast,Int.toNat_natCast] at h2;exact h2);rw [thenK_succ,hrk];simp);(rw [if_pos om])) (by repeat (first | exact HpSub.refl _ | exact hpSub_nil | refine HpSub.skip ?_ rfl)))))
  have hr1:=hc1;(try simp only [hcs,Int.reduceToNat] at hc1)
  have hkn:k=n:=om
  refine hw_exit ?_
  refine hq_then_exit<|hq_then_exit<|hq_block_here<|hq_block<|h9 _<|hw_region<|sm ?_
  refine s0 hai ?_
  refine sa<|hseq_nil ?_
  exact hL6 ((i+1,fup ob i (boO c n (thenK r y i k)))) _ _ (by (try dsimp only);exact ⟨by omega,rows_fup hrw (fun j hj=>by rw [hkn];simp) (fun a b hk hj e=>by have:(a < i)=(a < i+1):=(by apply propext;omega);simp only [this])⟩) (by (try dsimp only);omega) (HSub.trans (hsub_back 9306 9377 10000 i n go c0 n 1 0 _ _ (boF (thenK r y i k)) [] ob hin (by decide) (by decide) (by decide) rfl) (hsub_of rfl (Nat.le_refl _) tsa (HpSub.refl _)))
 have hr0:=hc0;(try simp only [hcs,Int.reduceToNat] at hc0)
 refine hw_exit ?_
 refine hq_then_exit<|hq_then_exit<|hq_block_here<|h4 _<|srg fun N h20=>sm<|sa<|snl h20<|hw_ret ?_
 exact hq_ret1 rfl (rval_tmp rfl) (relL go n ob) (fam_dupc (by decide) n) rel_get (fz_rel (fun k hk=>by obtain ⟨g,h,e,hh⟩:=hrw k hk;exact ⟨g,h,e,fun j hj=>by rw [hh j hj];simp;omega⟩))
def moreAt (r y:Nat→Nat→Bool) (a b:Nat):Bool:=(r a b||y a b) != r a b
@[reducible] def orB (r y:Nat→Nat→Bool):Nat→Nat→Bool:=fun a b=>r a b||y a b
def moreI (n:Nat) (r y:Nat→Nat→Bool) (i:Nat):Bool:=(List.range i).any (fun a=>(List.range n).any (moreAt r y a))
def moreK (n:Nat) (r y:Nat→Nat→Bool) (i k:Nat):Bool:=moreI n r y i||(List.range k).any (moreAt r y i)
theorem moreK_zero (n:Nat) (r y:Nat→Nat→Bool) (i:Nat):moreK n r y i 0=moreI n r y i:=by simp [moreK]
theorem moreK_succ (n:Nat) (r y:Nat→Nat→Bool) (i k:Nat):moreK n r y i (k+1)=(moreK n r y i k||moreAt r y i k):=by
 unfold moreK;rw [List.range_succ,List.any_append,←Bool.or_assoc];simp
theorem moreI_succ (n:Nat) (r y:Nat→Nat→Bool) (i:Nat):moreI n r y (i+1)=moreK n r y i n:=by
 unfold moreK moreI;rw [List.range_succ,List.any_append];simp
theorem rwith_h (n:Nat) (hn:n≤1000) (r y:Nat→Nat→Bool):HPure Tryz.prog 54 [relH n r,relH n y] (t2 (relH n (orB r y)) (boolV (moreI n r y n))):=by
 refine hpure_of Tryz.func54 rfl kr _ _ _ rfl 67 rfl rfl (fun w F=>?_)
 refine srg fun N h1=>sa<|sa<|snl h1<|srg fun N h2=>sm ?_
 refine s0 (hnl el_94) ?_
 refine sa<|snl h2<|srg fun N h3=>sm ?_
 refine hf_callR 14 (xs:=[_]) (pre:=[]) (rnone_h n hn _) ⟨rfl,trivial⟩ pre0 rfl rfl (fun x1 c1 hrb=>?_)
 obtain ⟨go,ob0⟩:=x1
 (try dsimp only)
 refine sa<|snl h3<|srg fun N h4=>sa<|snl h4<|hw_seq fun Nh5 h5=>srg fun N h6=>sa<|snl h6<|hw_block ?_
 refine hw_loopc (α:=Nat×(Nat→HObj)) (fun x c=>⟨67,[(0,.v (relH n r)),(1,.v (relH n y)),(6,.v (intV (n:Int))),(7,.v (.os 9306 go 0 n)),(8,.v (boolV (moreI n r y x.1))),(9,.v (intV (x.1:Int)))],((9306,reO go n (famF 10000 x.2))::famP 10000 x.2 (fun _=>true) n),c⟩) (fun x=>x.1≤n∧RowsB n n (fun a b=>decide (a < x.1)&&orB r y a b) x.2) (fun x=>n - x.1) ((0,ob0)) (by exact ⟨Nat.zero_le _,fun k hk=>by obtain ⟨g,h,e,hh⟩:=hrb k hk;exact ⟨g,h,e,fun j hj=>by rw [hh j hj];simp⟩⟩) (hsub_of rfl (Nat.le_refl _) tsa (hsr rfl (by repeat (first | exact HpSub.refl _ | exact hpSub_nil | refine HpSub.skip ?_ rfl)))) (fun x c hx NhL7 hL7=>?_)
 revert hx hL7;obtain ⟨i,ob⟩:=x;intro hx hL7;dsimp only at hx hL7 ⊢
 obtain ⟨hi,hrw⟩:=hx
 refine hw_seq fun Nh8 h8=>srg fun N h9=>sm<|sm ?_
 refine s0 hli ?_
 refine snl h9 ?_
 refine wc (fun hc0=>?_) (fun hc0=>?_)
 ·have hr0:=hc0;(try simp only [hcs,Int.reduceToNat] at hc0)
  have hin:i < n:=om;obtain ⟨gi,hi',hoi,hhi⟩:=hrw i hin;let c0:=c
  refine hw_skip<|h8 _<|hw_seq fun Nh10 h10=>hw_block<|hw_seq fun Nh11 h11=>?_
  refine (hsub_borrow2 9306 9377 10000 i n go gi n 1 _ _ (boF hi') [] ob hoi hin (by decide) (by decide) (by decide) rfl (c':=c+1) rfl).wp ?_
  refine hw_region<|sa<|snl h11<|hw_block ?_
  refine hw_loopc (α:=Nat) (fun x c=>⟨67,[(0,.v (relH n r)),(1,.v (relH n y)),(6,.v (intV (n:Int))),(7,.v (.os 9306 go 0 n)),(8,.v (boolV (moreK n r y i x))),(9,.v (intV (i:Int))),(10,.v (intV (x:Int)))],((9306,reO go n (famB 10000 ob i 9377 c0 n))::(9377,boO c0 n (fun j=>if j < x then orB r y i j else false))::famP 10000 ob (fun x=>x != i) n),c⟩) (fun x=>x≤n) (fun x=>n - x) (0) om (hsub_of rfl (Nat.le_refl _) (tsr rfl (tsr rfl (tsr rfl (tsr rfl (TmSub.cons rfl (by rw [moreK_zero];exact .refl _) tsa))))) (hsr rfl (HpSub.cons rfl (osub_bo fun j hj=>by show boolV (hi' j)=boolV (if j < 0 then _ else _);rw [hhi j hj,if_neg (Nat.not_lt_zero _)];simp) (by repeat (first | exact HpSub.refl _ | exact hpSub_nil | refine HpSub.skip ?_ rfl))))) (fun k c hx NhL12 hL12=>?_)
  (try dsimp only at hx hL12 ⊢)
  refine hw_seq fun Nh13 h13=>srg fun N h14=>sm<|sm ?_
  refine s0 hli ?_
  refine snl h14 ?_
  refine wc (fun hc1=>?_) (fun hc1=>?_)
  ·have hr1:=hc1;(try simp only [hcs,Int.reduceToNat] at hc1)
   have hkn:k < n:=om
   refine hw_skip<|h13 _<|hw_seq fun Nh15 h15=>hw_block<|hw_seq fun Nh16 h16=>hd_start ?_
   refine dm 1 ?_
   refine dm 2 ?_
   refine hd_q 27 (hol_ia_os el_94 rfl rfl om om) rfl rfl (pre1 rfl) rfl rfl (k':=3) rfl ?_
   refine hd_q 28 (HOp.val (v':=HV.os 9377 c0 0 n) (hol_load ty_97 rfl (by omega) (nb rfl) (fun h=>(by rfl))) ((by exact famB_at))) rfl rfl (pre1 rfl) rfl rfl (k':=4) rfl ?_
   refine dm 5 ?_
   refine dm 6 ?_
   refine dm 7 ?_
   refine d0 8 (hix el_94) ?_
   refine d0 9 (hlf ty_97) ?_
   refine dm 10 ?_
   refine d0 11 (hix el_97) ?_
   refine d0 12 (hlf ty_4) ?_
   refine dm 13 ?_
   refine hd_g 38 12 37 false _ (fun hb=>hop_move rfl) rfl rfl rfl rfl pre0 rfl rfl rfl (k':=14) rfl ?_
   refine hd_g 39 12 37 false _ (fun hb=>hop_move rfl) rfl rfl rfl rfl pre0 rfl rfl rfl (k':=15) rfl ?_
   refine hd_g 40 12 37 false _ (fun hb=>hop_ia_sl el_94 rfl rfl (by simp at hb;exact omx) (by simp at hb;exact omx) (nb rfl)) rfl rfl rfl rfl pre0 rfl rfl rfl (k':=16) rfl ?_
   refine hd_g 41 12 37 false _ (fun hb=>hop_load_fp ty_97 rfl (nb rfl) rq) rfl rfl rfl rfl pre0 rfl rfl rfl (k':=17) rfl ?_
   refine hd_g 42 12 37 false _ (fun hb=>hop_move rfl) rfl rfl rfl rfl pre0 rfl rfl rfl (k':=18) rfl ?_
   refine hd_g 43 12 37 false _ (fun hb=>hop_ia_sl el_97 rfl rfl (by simp at hb;exact omx) (by simp at hb;exact omx) (nb rfl)) rfl rfl rfl rfl pre0 rfl rfl rfl (k':=19) rfl ?_
   refine hd_g 44 12 37 false _ (fun hb=>hop_load_fp ty_4 rfl (nb rfl) rq) rfl rfl rfl rfl pre0 rfl rfl rfl (k':=20) rfl ?_
   refine hd_p 45 (hstep_or _ _ rfl rfl rfl) rfl rfl rfl (k':=21) rfl ?_
   refine hd_q 46 (hol_ia_os el_97 rfl rfl om om) rfl rfl (pre1 rfl) rfl rfl (k':=22) rfl ?_
   refine hd_s1 (hol_store ty_4 rfl rfl rfl rfl om (nb rfl) (nb rfl)) rfl rfl (pre1 rfl) (k':=23) rfl ?_
   refine hd_nilU kr kr (by rfl) (by simp only [dropUn,slots];exact rfl) (c':=c+23) rfl ?_
   refine h16 _<|hd_start ?_
   refine dm 1 ?_
   refine dm 2 ?_
   refine hd_g 49 1 48 false _ (fun hb=>hop_move rfl) rfl rfl rfl rfl pre0 rfl rfl rfl (k':=3) rfl ?_
   refine hd_g 50 1 48 false _ (fun hb=>hop_move rfl) rfl rfl rfl rfl pre0 rfl rfl rfl (k':=4) rfl ?_
   refine hd_g 51 1 48 false _ (fun hb=>hol_ia_os el_94 rfl rfl om om) rfl rfl rfl rfl (pre1 rfl) rfl rfl rfl (k':=5) rfl ?_
   refine hd_g 52 1 48 false _ (fun hb=>HOp.val (v':=HV.os 9377 c0 0 n) (hol_load ty_97 rfl (by omega) (nb rfl) (fun h=>(by rfl))) ((by exact famB_at))) rfl rfl rfl rfl (pre1 rfl) rfl rfl rfl (k':=6) rfl ?_
   refine hd_g 53 1 48 false _ (fun hb=>hop_move rfl) rfl rfl rfl rfl pre0 rfl rfl rfl (k':=7) rfl ?_
   refine hd_g 54 1 48 false _ (fun hb=>hol_ia_os el_97 rfl rfl om om) rfl rfl rfl rfl (pre1 rfl) rfl rfl rfl (k':=8) rfl ?_
   refine hd_g 55 1 48 false _ (fun hb=>HOp.val (v':=boolV (orB r y i k)) (hol_load ty_4 rfl (by omega) (nb rfl) (fun h=>(by rfl))) ((by exact upd1_at.trans (if_pos (by simp))))) rfl rfl rfl rfl (pre1 rfl) rfl rfl rfl (k':=9) rfl ?_
   refine hd_g 56 1 48 false _ (fun hb=>hop_move rfl) rfl rfl rfl rfl pre0 rfl rfl rfl (k':=10) rfl ?_
   refine hd_g 57 1 48 false _ (fun hb=>hop_move rfl) rfl rfl rfl rfl pre0 rfl rfl rfl (k':=11) rfl ?_
   refine hd_g 58 1 48 false _ (fun hb=>hop_ia_sl el_94 rfl rfl om om (nb rfl)) rfl rfl rfl rfl pre0 rfl rfl rfl (k':=12) rfl ?_
   refine hd_g 59 1 48 false _ (fun hb=>hop_load_fp ty_97 rfl (nb rfl) rq) rfl rfl rfl rfl pre0 rfl rfl rfl (k':=13) rfl ?_
   refine hd_g 60 1 48 false _ (fun hb=>hop_move rfl) rfl rfl rfl rfl pre0 rfl rfl rfl (k':=14) rfl ?_
   refine hd_g 61 1 48 false _ (fun hb=>hop_ia_sl el_97 rfl rfl om om (nb rfl)) rfl rfl rfl rfl pre0 rfl rfl rfl (k':=15) rfl ?_
   refine hd_g 62 1 48 false _ (fun hb=>hop_load_fp ty_4 rfl (nb rfl) rq) rfl rfl rfl rfl pre0 rfl rfl rfl (k':=16) rfl ?_
   refine hd_g 63 1 48 false _ (fun hb=>hop_bne (fun w=>by kernel_rfl) rfl rfl) rfl rfl rfl rfl pre0 rfl rfl rfl (k':=17) rfl ?_
   refine hd_p 64 (hstep_or _ _ rfl rfl rfl) rfl rfl rfl (k':=18) rfl ?_
   refine d0 19 (hop_assign rfl) ?_
   refine hd_nilU kr kr (by rfl) (by simp only [dropUn,slots];exact rfl) (c':=c+42) rfl ?_
   refine hq_block<|h15 _<|hw_region<|sm ?_
   refine s0 hai ?_
   refine sa<|hseq_nil ?_
   exact hL12 (k+1) _ _ (by (try dsimp only);omega) (by (try dsimp only);omega) (hsub_of rfl (Nat.le_refl _) (tsr rfl (tsr rfl (tsr rfl (tsr rfl (TmSub.cons rfl (by rw [moreK_succ];exact .refl _) tsa))))) (hsr rfl (HpSub.cons rfl (osub_bo fun q hq=>by rw [upd1_at];by_cases e:q=k;(subst e;rw [if_pos (by simp)];show boolV (orB r y i q)=boolV (if q < q+1 then _ else _);rw [if_pos (Nat.lt_succ_self q)]);(rw [if_neg (by simpa using e)];show boolV (if q < k then _ else _)=boolV (if q < k+1 then _ else _);by_cases h:q < k;(rw [if_pos h,if_pos om]);(rw [if_neg h,if_neg om]))) (by repeat (first | exact HpSub.refl _ | exact hpSub_nil | refine HpSub.skip ?_ rfl)))))
  have hr1:=hc1;(try simp only [hcs,Int.reduceToNat] at hc1)
  have hkn:k=n:=om
  refine hw_exit ?_
  refine hq_then_exit<|hq_then_exit<|hq_block_here<|hq_block<|h10 _<|hw_region<|sm ?_
  refine s0 hai ?_
  refine sa<|hseq_nil ?_
  exact hL7 ((i+1,fup ob i (boO c n (fun j=>if j < k then orB r y i j else false)))) _ _ (by (try dsimp only);exact ⟨by omega,rows_fup hrw (fun j hj=>by rw [if_pos (by omega:j < k)];simp) (fun a b hk hj e=>by have:(a < i)=(a < i+1):=(by apply propext;omega);simp only [this])⟩) (by (try dsimp only);omega) (HSub.trans (hsub_back 9306 9377 10000 i n go c0 n 1 0 _ _ (boF (fun j=>if j < k then orB r y i j else false)) [] ob hin (by decide) (by decide) (by decide) rfl) (hsub_of rfl (Nat.le_refl _) (tsr rfl (tsr rfl (tsr rfl (tsr rfl (.cons rfl (by rw [moreI_succ,←hkn];exact .refl _) tsa))))) (HpSub.refl _)))
 have hr0:=hc0;(try simp only [hcs,Int.reduceToNat] at hc0)
 refine hw_exit ?_
 refine hq_then_exit<|hq_then_exit<|hq_block_here<|h5 _<|srg fun N h17=>sm<|sm<|sa<|sa<|snl h17<|hw_ret ?_
 exact hq_ret2 rfl (rval_tmp rfl) (rval_tmp rfl) (relL go n ob) (fam_dupc (by decide) n) rel_get (fz_t2 (fz_rel (fun k hk=>by obtain ⟨g,h,e,hh⟩:=hrw k hk;exact ⟨g,h,e,fun j hj=>by rw [hh j hj];simp;omega⟩)) (by rw [show n=i by omega];exact .imm _))
theorem fz_relF {go n:Nat} {F:Nat→Nat→HV} {ob:Nat→HObj} {f:Nat→Nat→Bool} (hF:∀ k,k < n→F k 0=.os (10000+k) (ob k).g 0 (ob k).n) (h:RowsB n n f ob):Fz ((9306,reO go n F)::famP 10000 ob (fun _=>true) n) (.os 9306 go 0 n) (relH n f):=by
 refine Fz.os 9306 go 0 n (reO go n F) _ (List.mem_cons_self ..) rfl (by show 0+n≤n;omega) (fun i j hi hj=>?_)
 obtain rfl:j=0:=by have:j < 1:=hj;omega
 obtain ⟨g,hh,e,hf⟩:=h i hi
 show Fz _ (F (0+i) 0) (.sl 1 n (boF (f i)))
 have hm:=fam_mem (b:=10000) (ob:=ob) hi
 rw [Nat.zero_add,hF i hi]
 rw [e] at hm
 rw [e]
 refine Fz.os (10000+i) g 0 n (boO g n hh) _ (List.mem_cons_of_mem _ hm) rfl (by show 0+n≤n;omega) (fun p q hp hq=>?_)
 show Fz _ (boolV (hh (0+p))) (boolV (f i p))
 rw [Nat.zero_add,hf p hp];exact .imm _
theorem rnoneP_h (n:Nat) (hn:n≤1000):HPure Tryz.prog 50 [intV (n:Int)] (relH n (fun _ _=>false)):=by
 refine hpure_of Tryz.func50 rfl kr _ _ _ rfl 18 rfl rfl (fun w F=>?_)
 refine srg fun N h1=>sa<|snl h1<|srg fun N h2=>sm ?_
 refine hm_1 6 (hop_make (id:=9306) (n:=_) (m:=_) ei_94 (nb rfl) (nb rfl) rfl rfl rfl rfl om om om rfl) rfl rfl pre0 rfl rfl (c':=1) rfl ?_
 refine sa<|snl h2<|hw_seq fun Nh3 h3=>srg fun N h4=>sa<|snl h4<|hw_block ?_
 refine hw_loopc (α:=Nat×(Nat→HObj)) (fun x c=>⟨18,[(0,.v (intV (n:Int))),(3,.v (.os 9306 0 0 n)),(4,.v (intV (x.1:Int)))],((9306,reO 0 n (fun k _=>if k < x.1 then .os (10000+k) (x.2 k).g 0 (x.2 k).n else nilS))::famP 10000 x.2 (fun _=>true) x.1),c⟩) (fun x=>x.1≤n∧RowsB n x.1 (fun _ _=>false) x.2) (fun x=>n - x.1) ((0,fun _=>boO 0 0 (fun _=>false))) (by exact ⟨Nat.zero_le _,fun k hk=>absurd hk (Nat.not_lt_zero _)⟩) (hsub_of rfl (Nat.le_refl _) tsa (HpSub.cons rfl (OSub.of fun k j hk hj=>by obtain rfl:j=0:=om;show Sb _ (if k < 0 then _ else nilS);rw [if_neg (Nat.not_lt_zero _)];exact .refl _) HpSub.nil)) (fun x c hx NhL5 hL5=>?_)
 revert hx hL5;obtain ⟨i,ob⟩:=x;intro hx hL5;dsimp only at hx hL5 ⊢
 obtain ⟨hi,hrw⟩:=hx
 refine hw_seq fun Nh6 h6=>srg fun N h7=>sm<|sm ?_
 refine s0 hli ?_
 refine snl h7 ?_
 refine wc (fun hc0=>?_) (fun hc0=>?_)
 ·have hr0:=hc0;(try simp only [hcs,Int.reduceToNat] at hc0)
  refine hw_skip<|h6 _<|hw_seq fun Nh8 h8=>hw_block<|hw_region<|sm<|sm<|sm ?_
  refine hm_1 15 (hop_make (id:=9315) (n:=_) (m:=_) ei_97 (nb rfl) (nb rfl) rfl rfl rfl rfl om om om rfl) rfl rfl pre0 rfl rfl (c':=c+1) rfl ?_
  refine st1 (hol_ia_os el_94 rfl rfl om om) rfl rfl rfl ?_
  refine hm_s1 (hol_store ty_97 rfl rfl rfl rfl om (nb rfl) (nb rfl)) rfl rfl (pre1 rfl) (c':=c+2) rfl ?_
  refine hseq_nil<|hq_block<|h8 _<|hw_region<|sm ?_
  refine s0 hai ?_
  refine sa<|hseq_nil ?_
  exact hL5 ((i+1,fup ob i (boO (c+2) n (fun _=>false)))) _ _ (by (try dsimp only);exact ⟨by omega,fun k hk=>by unfold fup;split;exact ⟨_,_,rfl,fun _ _=>rfl⟩;exact hrw k om⟩) (by (try dsimp only);omega) (HSub.trans (hsub_grow 9306 9315 10000 i n 0 c n 1 0 _ _ (boF (fun _=>false)) _ nilS ob rfl ⟨_,rfl,OSub.of (fun k j hk hj=>by obtain rfl:j=0:=om;exact .refl _)⟩ (fun k hk=>by rw [hget_skip rfl,hget_skip rfl,hget_skip rfl];exact hget_fam_at hk) (fun k hk=>by rw [upd1_at];by_cases e:k=i;(rw [if_pos (by simpa using e),if_neg om,if_pos e];rfl);(rw [if_neg (by simpa using e),if_neg e])) (by decide) (by decide) (by decide)) (hsub_of rfl (Nat.le_refl _) tsa (HpSub.refl _)))
 have hr0:=hc0;(try simp only [hcs,Int.reduceToNat] at hc0)
 obtain rfl:i=n:=om
 refine hw_exit ?_
 refine hq_then_exit<|hq_then_exit<|hq_block_here<|h3 _<|srg fun N h9=>sm<|sa<|snl h9<|hw_ret ?_
 exact hq_ret1 rfl (rval_tmp rfl) ((9306,reO 0 i (fun k _=>if k < i then .os (10000+k) (ob k).g 0 (ob k).n else nilS))::famP 10000 ob (fun _=>true) i) (fam_dupc (by decide) i) (fam_getc rfl (fun k hk=>by rw [hget_skip rfl];exact hget_fam_at hk)) (fz_relF (fun k hk=>if_pos hk) hrw)
def powB (n:Nat) (y:Nat→Nat→Bool):Nat→Nat→Nat→Bool
 | 0=>fun i j=>decide (i=j)
 | k+1=>thenB n (powB n y k) y
def uniB (n lo:Nat) (y:Nat→Nat→Bool):Nat→Nat→Nat→Bool
 | 0=>fun _ _=>false
 | k+1=>if lo≤k then orB (uniB n lo y k) (powB n y k) else uniB n lo y k
theorem uniB_iff (n lo:Nat) (y:Nat→Nat→Bool) (i j:Nat):∀ k,uniB n lo y k i j=true↔∃ q,q < k∧lo≤q∧powB n y q i j=true
  | 0=>⟨(fun h=>by cases h),(fun ⟨q,h,_⟩=>absurd h (Nat.not_lt_zero _))⟩
  | k + 1 => by
    have ih:=uniB_iff n lo y i j k
    simp only [uniB]
    by_cases h:lo≤k
    · rw [if_pos h]
      show (uniB n lo y k i j||powB n y k i j)=true↔_
      rw [Bool.or_eq_true,ih]
      constructor
      · rintro (⟨q,h1,h2⟩ | h1)
        · exact ⟨q,by omega,h2⟩
        · exact ⟨k,by omega,h,h1⟩
      · rintro ⟨q,h1,h2,h3⟩
        by_cases e:q=k
        · subst e;exact .inr h3
        · exact .inl ⟨q,by omega,h2,h3⟩
    · rw [if_neg h,ih]
      constructor
      · rintro ⟨q,h1,h2⟩;exact ⟨q,by omega,h2⟩
      · rintro ⟨q,h1,h2,h3⟩;exact ⟨q,by omega,h2,h3⟩
def cntN (p:Nat→Bool):Nat→Nat
 | 0=>0
 | m+1=>cntN p m+(if p m then 1 else 0)
theorem cntN_le (p:Nat→Bool):∀ m,cntN p m≤m
 | 0=>Nat.le_refl _
 | m+1=>by have:=cntN_le p m;simp only [cntN];split <;> omega
theorem cntN_mono {p q:Nat→Bool}:∀ m,(∀ a,a < m→p a=true→q a=true)→cntN p m≤cntN q m
  | 0,_=>Nat.le_refl _
  | m + 1, h => by
    have:=cntN_mono (p:=p) (q:=q) m (fun a ha=>h a (by omega))
    have hm:=h m (by omega)
    simp only [cntN]
    by_cases hp:p m=true
    · rw [if_pos hp,if_pos (hm hp)];omega
    · rw [if_neg hp];split <;> omega
theorem cntN_lt {p q:Nat→Bool}:∀ m,(∀ a,a < m→p a=true→q a=true)→(∃ a,a < m∧q a=true∧p a=false)→cntN p m < cntN q m
  | 0,_,⟨a,h,_⟩=>absurd h (Nat.not_lt_zero _)
  | m + 1, h, ⟨a, ha, h1, h2⟩ => by
    have hm:=h m (by omega)
    simp only [cntN]
    by_cases e:a=m
    · subst e
      have:=cntN_mono (p:=p) (q:=q) a (fun b hb=>h b (by omega))
      rw [if_neg (by rw [h2];decide),if_pos h1];omega
    · have:=cntN_lt (p:=p) (q:=q) m (fun b hb=>h b (by omega)) ⟨a,by omega,h1,h2⟩
      by_cases hp:p m=true
      · rw [if_pos hp,if_pos (hm hp)];omega
      · rw [if_neg hp];split <;> omega
def cntB (n:Nat) (f:Nat→Nat→Bool):Nat:=cntN (fun q=>f (q / n) (q % n)) (n * n)
theorem cntB_le (n:Nat) (f:Nat→Nat→Bool):cntB n f≤n * n:=cntN_le _ _
theorem moreI_iff {n:Nat} {r y:Nat→Nat→Bool}:moreI n r y n=true↔∃ a b,a < n∧b < n∧y a b=true∧r a b=false:=by
 unfold moreI
 rw [List.any_eq_true]
 constructor
 ·rintro ⟨a,ha,h⟩
  rw [List.any_eq_true] at h
  obtain ⟨b,hb,h⟩:=h
  refine ⟨a,b,List.mem_range.1 ha,List.mem_range.1 hb,?_⟩
  unfold moreAt at h
  cases hr:r a b <;> cases hy:y a b <;> simp [hr,hy] at h ⊢
 ·rintro ⟨a,b,ha,hb,h1,h2⟩
  refine ⟨a,List.mem_range.2 ha,?_⟩
  rw [List.any_eq_true]
  exact ⟨b,List.mem_range.2 hb,by unfold moreAt;rw [h1,h2];rfl⟩
theorem cntB_lt {n:Nat} {r y:Nat→Nat→Bool} (h:moreI n r y n=true):cntB n r < cntB n (orB r y):=by
 obtain ⟨a,b,ha,hb,h1,h2⟩:=moreI_iff.1 h
 have hn:0 < n:=by omega
 refine cntN_lt _ (fun q hq hr=>by show (r (q / n) (q % n)||_)=true;rw [hr];rfl) ⟨a * n+b,?_,?_,?_⟩
 ·have:=Nat.mul_le_mul_right n (show a+1≤n by omega)
  rw [Nat.succ_mul] at this;omega
 ·have e1:(a * n+b) / n=a:=by rw [Nat.mul_comm,Nat.mul_add_div hn,Nat.div_eq_of_lt hb,Nat.add_zero]
  have e2:(a * n+b) % n=b:=by rw [Nat.mul_comm,Nat.mul_add_mod,Nat.mod_eq_of_lt hb]
  show (r _ _||y _ _)=true
  rw [e1,e2,h1,Bool.or_true]
 ·have e1:(a * n+b) / n=a:=by rw [Nat.mul_comm,Nat.mul_add_div hn,Nat.div_eq_of_lt hb,Nat.add_zero]
  have e2:(a * n+b) % n=b:=by rw [Nat.mul_comm,Nat.mul_add_mod,Nat.mod_eq_of_lt hb]
  show r _ _=false
  rw [e1,e2,h2]
def TimesP (n lo:Nat) (hi:Int) (y:Nat→Nat→Bool) (i j:Nat):Prop:=∃ k,lo≤k∧(hi < 0∨(k:Int)≤hi)∧powB n y k i j=true
open Classical in
noncomputable def timesB (n lo:Nat) (hi:Int) (y:Nat→Nat→Bool):Nat→Nat→Bool:=fun i j=>decide (TimesP n lo hi y i j)
theorem timesB_iff {n lo:Nat} {hi:Int} {y:Nat→Nat→Bool} {i j:Nat}:timesB n lo hi y i j=true↔TimesP n lo hi y i j:=by classical unfold timesB;rw [decide_eq_true_eq]
theorem timesB_hi {n lo k:Nat} {hi:Int} {y:Nat→Nat→Bool} (h:(k:Int)=hi) (i j:Nat):uniB n lo y (k+1) i j=timesB n lo hi y i j:=by
 rw [Bool.eq_iff_iff,uniB_iff,timesB_iff]
 constructor
 ·rintro ⟨q,h1,h2,h3⟩;exact ⟨q,h2,.inr (by omega),h3⟩
 ·rintro ⟨q,h1,h2,h3⟩;exact ⟨q,by omega,h1,h3⟩
theorem thenK_iff {r y:Nat→Nat→Bool} {i k j:Nat}:thenK r y i k j=true↔∃ q,q < k∧r i q=true∧y q j=true:=by
 unfold thenK
 rw [List.any_eq_true]
 constructor
 ·rintro ⟨q,hq,h⟩;rw [Bool.and_eq_true] at h;exact ⟨q,List.mem_range.1 hq,h⟩
 ·rintro ⟨q,hq,h⟩;exact ⟨q,List.mem_range.2 hq,by rw [Bool.and_eq_true];exact h⟩
theorem timesB_st {n lo k:Nat} {hi:Int} {y:Nat→Nat→Bool} (hh:hi < 0) (hk:lo < k) (hm:moreI n (uniB n lo y k) (powB n y k) n=false) {i j:Nat} (hi':i < n) (hj:j < n):uniB n lo y (k+1) i j=timesB n lo hi y i j:=by
  have hs:∀ a b,a < n→b < n→powB n y k a b=true→uniB n lo y k a b=true:=fun a b ha hb h=>by
    cases hu:uniB n lo y k a b with
    | true=>rfl
    | false=>rw [moreI_iff.2 ⟨a,b,ha,hb,h,hu⟩] at hm;cases hm
  have hall:∀ d a b,a < n→b < n→powB n y (k+d) a b=true→uniB n lo y k a b=true:=by
    intro d
    induction d with
    | zero=>exact hs
    | succ d ih =>
      intro a b ha hb h
      obtain ⟨q,hq,h1,h2⟩:=thenK_iff.1 (show thenK (powB n y (k+d)) y a n b=true from h)
      obtain ⟨p,hp,hlp,h3⟩:=(uniB_iff n lo y a q k).1 (ih a q ha hq h1)
      have h4:powB n y (p+1) a b=true:=thenK_iff.2 ⟨q,hq,h3,h2⟩
      by_cases e:p+1=k
      · rw [e] at h4;exact hs a b ha hb h4
      · exact (uniB_iff n lo y a b k).2 ⟨p+1,by omega,by omega,h4⟩
  rw [Bool.eq_iff_iff,uniB_iff,timesB_iff]
  constructor
  · rintro ⟨q,h1,h2,h3⟩;exact ⟨q,h2,.inl hh,h3⟩
  · rintro ⟨q,h1,_,h3⟩
    by_cases h:q < k
    · exact ⟨q,by omega,h1,h3⟩
    · have:=hall (q - k) i j hi' hj (by rw [show k+(q - k)=q by omega];exact h3)
      obtain ⟨p,hp,hlp,h4⟩:=(uniB_iff n lo y i j k).1 this
      exact ⟨p,by omega,hlp,h4⟩
theorem fz_rel2 {sh:List (Nat×HObj)} {n:Nat} {f f':Nat→Nat→Bool} (h:∀ i j,i < n→j < n→f i j=f' i j):Fz sh (relH n f) (relH n f'):=.sl _ _ _ _ fun i j hi hj=>.sl _ _ _ _ fun p q hp hq=>by show Fz sh (boolV (f i p)) (boolV (f' i p));rw [h i p hi hp];exact .imm _
theorem rtimes_h (n:Nat) (hn:n≤1000) (p:Pt) (hlo:0≤p.low) (hlo2:p.low≤20) (hhi:p.high≤20) (y:Nat→Nat→Bool):HPure Tryz.prog 55 [ptH p,relH n y] (relH n (timesB n p.low.toNat p.high y)):=by
 obtain ⟨lo,hl⟩:∃ lo,lo=p.low.toNat:=⟨_,rfl⟩
 rw [←hl]
 have hnn:n * n≤1000000:=Nat.mul_le_mul hn hn
 refine hpure_of Tryz.func55 rfl kr _ _ _ rfl 51 rfl rfl (fun w F=>?_)
 refine srg fun N h1=>?_
 refine hm_1 2 (hop_box (id:=2) (sz:=5) rfl rfl rfl (nb rfl) (nb rfl)) rfl rfl pre0 rfl rfl (c':=1) rfl ?_
 refine sa<|snl h1<|srg fun N h2=>sm ?_
 refine s0 (hnl el_94) ?_
 refine sa<|snl h2<|srg fun N h3=>sm ?_
 refine s0 (hop_call0 (xs:=[_]) (rsame_h n hn) ⟨rfl,trivial⟩ ⟨fe,trivial⟩) ?_
 refine sa<|snl h3<|srg fun N h4=>sm ?_
 refine s0 (hop_call0 (xs:=[_]) (rnoneP_h n hn) ⟨rfl,trivial⟩ ⟨fe,trivial⟩) ?_
 refine sa<|snl h4<|srg fun N h5=>sa<|snl h5<|hw_block ?_
 refine hw_loopc (α:=Nat) (fun x c=>⟨51,[(1,.v (relH n y)),(2,.v (.pt 2 0 0 0)),(6,.v (relH n (powB n y x))),(7,.v (relH n (uniB n lo y x))),(8,.v (intV (x:Int)))],[(2,⟨0,1,5,27,0,fun _=>ptF p⟩)],c⟩) (fun x=>(0≤p.high→(x:Int)≤p.high)∧(p.high < 0→x≤lo+1+cntB n (uniB n lo y x))) (fun x=>p.high.toNat+lo+n * n+2 - x) (0) (by exact ⟨fun h=>h,fun _=>Nat.zero_le _⟩) (hsub_of rfl (Nat.le_refl _) tsa hsa) (fun k c hx NhL6 hL6=>?_)
 (try dsimp only at hx hL6 ⊢)
 obtain ⟨hk1,hk2⟩:=hx
 have hcl:=cntB_le n (uniB n lo y k)
 refine hw_seq fun Nh7 h7=>hw_block<|srg fun N h8=>sa<|snl h8 ?_
 refine hw_joinc (α:=Nat) (fun x c=>⟨51,[(1,.v (relH n y)),(2,.v (.pt 2 0 0 0)),(6,.v (relH n (powB n y k))),(7,.v (relH n (uniB n lo y (k+1)))),(8,.v (intV (k:Int))),(9,.v (boolV (decide (lo≤k)&&moreI n (uniB n lo y k) (powB n y k) n)))],[(2,⟨0,1,5,27,0,fun _=>ptF p⟩)],c⟩) (fun x=>x≤0) (fun NhJ9 hJ9=>?_) (fun q c hx=>?_)
 ·skip
  refine srg fun N h10=>sm ?_
  refine sf fd_27_1 ?_
  refine sl ty_3 ?_
  refine s0 (hop_geq rfl rfl) ?_
  refine snl h10 ?_
  refine wc (fun hc0=>?_) (fun hc0=>?_)
  ·have hr0:=hc0;(try simp only [hcs,Int.reduceToNat] at hc0)
   refine hw_region<|sm<|sm ?_
   refine s0 (hop_call0 (xs:=[_,_]) (rwith_h n hn (uniB n lo y k) (powB n y k)) ⟨rfl,⟨rfl,trivial⟩⟩ ⟨fe,⟨fe,trivial⟩⟩) ?_
   refine sm ?_
   refine s0 hex ?_
   refine s0 hex ?_
   refine sa<|sa<|hseq_nil ?_
   exact hJ9 (0) _ _ (by (try dsimp only);first | done | exact Nat.le_refl _) (hsub_of rfl (Nat.le_refl _) (tsr rfl (tsr rfl (tsr rfl (TmSub.cons rfl (by rw [uniB,if_pos om];exact .refl _) (tsr rfl (TmSub.cons rfl (by rw [decide_eq_true (by omega:lo≤k),Bool.true_and];exact .refl _) TmSub.nil)))))) hsa)
  have hr0:=hc0;(try simp only [hcs,Int.reduceToNat] at hc0)
  refine hw_skip ?_
  exact hJ9 (0) _ _ (by (try dsimp only);first | done | exact Nat.le_refl _) (hsub_of rfl (Nat.le_refl _) (tsr rfl (tsr rfl (tsr rfl (TmSub.cons rfl (by rw [uniB,if_neg om];exact .refl _) (tsr rfl (TmSub.cons rfl (by rw [decide_eq_false (by omega:¬ lo≤k),Bool.false_and];exact .refl _) TmSub.nil)))))) hsa)
 ·skip
  (try dsimp only at hx ⊢)
  refine hw_seq fun Nh11 h11=>srg fun N h12=>sm ?_
  refine sf fd_27_2 ?_
  refine sl ty_3 ?_
  refine s0 hqi ?_
  refine sm ?_
  refine stg 32 (fun hb=>hop_fa fd_27_2 rfl) rfl rfl rfl rfl rfl ?_
  refine hq_g 34 4 32 false _ (fun hb=>hol_load ty_3 rfl (nb rfl) (nb rfl) rq) rfl rfl rfl rfl (pre1 rfl) rfl rfl rfl ?_
  refine stg 32 (fun hb=>hop_lss rfl rfl) rfl rfl rfl rfl rfl ?_
  refine gm 32 ?_
  refine hq_g3 37 8 36 32 false true _ _ (fun hb hb2=>hop_move rfl) rfl rfl rfl rfl rfl pre0 rfl rfl rfl ?_
  refine hq_g3 38 8 36 32 false true _ _ (fun hb hb2=>hop_fa fd_27_1 rfl) rfl rfl rfl rfl rfl pre0 rfl rfl rfl ?_
  refine hq_g3 39 8 36 32 false true _ _ (fun hb hb2=>hol_load ty_3 rfl (nb rfl) (nb rfl) rq) rfl rfl rfl rfl rfl (pre1 rfl) rfl rfl rfl ?_
  refine hq_g3 40 8 36 32 false true _ _ (fun hb hb2=>hop_gtr rfl rfl) rfl rfl rfl rfl rfl pre0 rfl rfl rfl ?_
  refine hq_pg 41 (hstep_andg (gi:=4) (j:=32) _ _ rfl rfl rfl rfl) rfl rfl rfl rfl ?_
  refine gm 32 ?_
  refine hq_g3 43 14 42 32 false true _ _ (fun hb hb2=>hop_move rfl) rfl rfl rfl rfl rfl pre0 rfl rfl rfl ?_
  refine hq_g3 44 14 42 32 false true _ _ (fun hb hb2=>hop_not rfl) rfl rfl rfl rfl rfl pre0 rfl rfl rfl ?_
  refine hq_pg 45 (hstep_andg (gi:=4) (j:=32) _ _ rfl rfl rfl rfl) rfl rfl rfl rfl ?_
  refine hq_p 46 (hstep_or _ _ rfl rfl rfl) rfl rfl rfl ?_
  refine nu ?_
  refine h12 _ ?_
  refine wc (fun hc1=>?_) (fun hc1=>?_)
  ·have hr1:=hc1;(try simp only [hcs,Int.reduceToNat] at hc1)
   refine srg fun N h13=>sm<|sa<|snl h13<|hw_ret<|hq_then_ret<|hq_block_ret<|hq_then_ret<|hq_then_ret<|hq_block_ret ?_
   refine hq_ret1 rfl (rval_tmp rfl) [] rfl pre0 ?_
   exact fz_rel2 (fun i j hi hj=>by rcases hc1 with h | ⟨⟨h1,h2⟩,h3⟩;exact timesB_hi h i j;rw [decide_eq_true (by omega:lo≤k),Bool.true_and] at h3;exact timesB_st h1 om h3 hi hj)
  have hr1:=hc1;(try simp only [hcs,Int.reduceToNat] at hc1)
  have hmo:p.high < 0→lo < k→moreI n (uniB n lo y k) (powB n y k) n=true:=(fun h1 h2=>by have h3:=hc1.2;rw [decide_eq_true h1,decide_eq_true (by omega:p.low < (k:Int)),decide_eq_true (by omega:lo≤k)] at h3;simpa using h3)
  refine hw_skip<|h11 _<|hw_region<|sm<|sm ?_
  refine s0 (hop_call0 (xs:=[_,_]) (rthen_h n hn (powB n y k) y) ⟨rfl,⟨rfl,trivial⟩⟩ ⟨fe,⟨fe,trivial⟩⟩) ?_
  refine sa<|hseq_nil<|hq_block<|h7 _<|hw_region<|sm ?_
  refine s0 hai ?_
  refine sa<|hseq_nil ?_
  exact hL6 (k+1) _ _ (by (try dsimp only);exact ⟨fun h=>by have:=hk1 h;omega,fun h=>by rcases Nat.lt_or_ge lo k with h2 | h2;(have h3:=cntB_lt (hmo h h2);have h4:=hk2 h;rw [uniB,if_pos om];omega);omega⟩) (by (try dsimp only);have:=hk1;have:=hk2;omega) (hsub_of rfl (Nat.le_refl _) tsa hsa)
end Go.Proofs.YtldjnmljnlhaaaaGreatDoor
namespace Go.Proofs.YtldjnmljnlhaaaaGreatDoor
set_option linter.unusedSimpArgs false
set_option linter.unusedVariables false
set_option maxRecDepth 10000
def LPow (L:List Int→Prop):Nat→List Int→Prop
 | 0,w=>w=[]
 | k+1,w=>∃ u v,w=u++v∧LPow L k u∧L v
mutual
def Lang (m:List UInt8→Bag):T→List Int→Prop
 | .name s=>fun w=>∃ a,w=[a]∧a∈(m s).list
 | .times lo hi t=>fun w=>∃ k:Nat,lo≤(k:Int)∧(hi < 0∨(k:Int)≤hi)∧LPow (Lang m t) k w
 | .many k ts=>fun w=>if k=3 then LAny m ts w else LSeq m ts w
def LAny (m:List UInt8→Bag):List T→List Int→Prop
 | []=>fun _=>False
 | t::ts=>fun w=>Lang m t w∨LAny m ts w
def LSeq (m:List UInt8→Bag):List T→List Int→Prop
 | []=>fun w=>w=[]
 | t::ts=>fun w=>∃ u v,w=u++v∧Lang m t u∧LSeq m ts v
end
def sch (w:List Int) (x y:Nat):List Int:=(w.drop x).take (y - x)
theorem sch_len {w:List Int} {x y:Nat} (h:x≤y) (hy:y≤w.length):(sch w x y).length=y - x:=by
 unfold sch;rw [List.length_take,List.length_drop];omega
theorem sch_self (w:List Int) (x:Nat):sch w x x=[]:=by unfold sch;rw [Nat.sub_self];rfl
theorem sch_all (w:List Int):sch w 0 w.length=w:=by unfold sch;simp
theorem sch_one {w:List Int} {x:Nat} (h:x < w.length):sch w x (x+1)=[w.getD x 0]:=by
 unfold sch
 rw [show x+1 - x=1 by omega,List.drop_eq_getElem_cons h]
 simp only [List.take_succ_cons,List.take_zero]
 rw [List.getD_eq_getElem?_getD,List.getElem?_eq_getElem h];rfl
theorem sch_app {w:List Int} {x q y:Nat} (h1:x≤q) (h2:q≤y):sch w x y=sch w x q++sch w q y:=by
 unfold sch
 rw [show y - x=(q - x)+(y - q) by omega,List.take_add,List.drop_drop,show x+(q - x)=q by omega]
theorem sch_cut {w:List Int} {x y:Nat} {u v:List Int} (h:x≤y) (hy:y≤w.length) (e:sch w x y=u++v):x+u.length≤y∧u=sch w x (x+u.length)∧v=sch w (x+u.length) y:=by
 have hl:=congrArg List.length e
 rw [sch_len h hy,List.length_append] at hl
 have e2:=sch_app (w:=w) (x:=x) (q:=x+u.length) (y:=y) (by omega) (by omega)
 rw [e] at e2
 have hlu:u.length=(sch w x (x+u.length)).length:=by rw [sch_len (by omega) (by omega)];omega
 have:=List.append_inj e2 hlu
 exact ⟨by omega,this.1,this.2⟩
def RelP (w:List Int) (L:List Int→Prop) (x y:Nat):Prop:=x≤y∧y≤w.length∧L (sch w x y)
def LCat (L K:List Int→Prop) (w:List Int):Prop:=∃ u v,w=u++v∧L u∧K v
theorem rel_cat {w:List Int} {L K:List Int→Prop} {x y:Nat}:(∃ q,q < w.length+1∧RelP w L x q∧RelP w K q y)↔RelP w (LCat L K) x y:=by
 constructor
 ·rintro ⟨q,hq,⟨h1,h2,h3⟩,h4,h5,h6⟩
  exact ⟨by omega,h5,_,_,sch_app h1 h4,h3,h6⟩
 ·rintro ⟨h1,h2,u,v,e,hu,hv⟩
  obtain ⟨h3,h4,h5⟩:=sch_cut h1 h2 e
  exact ⟨x+u.length,by omega,⟨by omega,by omega,h4▸hu⟩,by omega,h2,h5▸hv⟩
theorem rel_nil {w:List Int} {x y:Nat} (hx:x < w.length+1):RelP w (fun u=>u=[]) x y↔x=y:=by
 constructor
 ·rintro ⟨h1,h2,h3⟩
  have:=congrArg List.length h3
  rw [sch_len h1 h2] at this
  simp at this;omega
 ·rintro rfl;exact ⟨Nat.le_refl _,by omega,sch_self w x⟩
def Says (w:List Int) (r:Nat→Nat→Bool) (L:List Int→Prop):Prop:=∀ x y,x < w.length+1→y < w.length+1→(r x y=true↔RelP w L x y)
theorem lseq_snoc {m:List UInt8→Bag} {t:T}:∀ {ts:List T} {w:List Int},LSeq m (ts++[t]) w↔LCat (LSeq m ts) (Lang m t) w
  | [], w => by
    simp only [List.nil_append,LSeq,LCat]
    constructor
    · rintro ⟨u,v,e,h1,h2⟩;subst h2;rw [List.append_nil] at e;subst e;exact ⟨[],w,rfl,rfl,h1⟩
    · rintro ⟨u,v,e,h1,h2⟩;subst h1;rw [List.nil_append] at e;subst e;exact ⟨w,[],by simp,h2,rfl⟩
  | x :: ts, w => by
    simp only [List.cons_append,LSeq]
    constructor
    · rintro ⟨u,v,e,h1,h2⟩
      obtain ⟨v1,v2,e2,h3,h4⟩:=lseq_snoc.1 h2
      exact ⟨u++v1,v2,by rw [e,e2,List.append_assoc],⟨u,v1,rfl,h1,h3⟩,h4⟩
    · rintro ⟨u,v,e,⟨u1,u2,e2,h1,h2⟩,h3⟩
      exact ⟨u1,u2++v,by rw [e,e2,List.append_assoc],h1,lseq_snoc.2 ⟨u2,v,rfl,h2,h3⟩⟩
theorem lany_snoc {m:List UInt8→Bag} {t:T}:∀ {ts:List T} {w:List Int},LAny m (ts++[t]) w↔LAny m ts w∨Lang m t w
  | [],w=>by simp [LAny]
  | x :: ts, w => by
    simp only [List.cons_append,LAny,lany_snoc (ts:=ts)]
    exact (or_assoc).symm
mutual
theorem sub_at {e:List Pt}:∀ (t:T) (b:Nat),t.ok=true→AtP e b (T.flat b t)→∀ i,b≤i→i < b+t.size→∃ (b':Nat) (u:T),u.ok=true∧AtP e b' (T.flat b' u)∧b'+u.size - 1=i
  | .name s,b,hok,hat,i,h1,h2=>⟨b,.name s,hok,hat,by simp only [T.size] at h2 ⊢;omega⟩
  | .times lo hi t, b, hok, hat, i, h1, h2 => by
    have hok':t.ok=true:=by simp only [T.ok,Bool.and_eq_true] at hok;exact hok.2
    by_cases h:i < b+t.size
    · exact sub_at t b hok' (by simp only [T.flat] at hat;exact atP_left hat) i h1 h
    · exact ⟨b,.times lo hi t,hok,hat,by simp only [T.size] at h2 ⊢;omega⟩
  | .many k ts, b, hok, hat, i, h1, h2 => by
    have hok':T.okL ts=true:=by simp only [T.ok,Bool.and_eq_true] at hok;exact hok.2
    by_cases h:i < b+T.sizeL ts
    · exact subL_at ts b hok' (by simp only [T.flat] at hat;exact atP_left hat) i h1 h
    · exact ⟨b,.many k ts,hok,hat,by simp only [T.size] at h2 ⊢;omega⟩
theorem subL_at {e:List Pt}:∀ (ts:List T) (b:Nat),T.okL ts=true→AtP e b (T.flatL b ts)→∀ i,b≤i→i < b+T.sizeL ts→∃ (b':Nat) (u:T),u.ok=true∧AtP e b' (T.flat b' u)∧b'+u.size - 1=i
  | [],b,_,_,i,h1,h2=>by simp only [T.sizeL] at h2;omega
  | t :: ts, b, hok, hat, i, h1, h2 => by
    simp only [T.okL,Bool.and_eq_true] at hok
    simp only [T.flatL] at hat
    simp only [T.sizeL] at h2
    by_cases h:i < b+t.size
    · exact sub_at t b hok.1 (atP_left hat) i h1 h
    · exact subL_at ts (b+t.size) hok.2 (atP_right hat (by rw [T.flat_len])) i (by omega) (by omega)
end
end Go.Proofs.YtldjnmljnlhaaaaGreatDoor
namespace Go.Proofs.YtldjnmljnlhaaaaGreatDoor
set_option linter.unusedSimpArgs false
set_option linter.unusedVariables false
set_option maxRecDepth 100000
set_option maxHeartbeats 1000000
open Go.RowKit
abbrev Rl:=Nat→Nat→Bool
def rl0:Rl:=fun _ _=>false
@[reducible] def rlsF (n:Nat) (al:List Rl):Nat→Nat→HV:=fun i _=>relH n (al.getD i rl0)
@[reducible] def rlsO (g n:Nat) (al:List Rl):HObj:=⟨g,al.length,1,94,0,rlsF n al⟩
theorem relL_keys {go n:Nat} {ob:Nat→HObj}:∀ p∈(relL go n ob).map (fun p=>(p.1,p.2.full)),p.1=9306∨10000≤p.1:=fun p hp=>by
 obtain ⟨q,hq,rfl⟩:=List.mem_map.1 hp
 rcases List.mem_cons.1 hq with rfl | hq
 ·exact .inl rfl
 ·exact .inr (fam_keys (List.mem_map.2 ⟨q,hq,rfl⟩)).1
open Classical in
noncomputable def treeR (m:List UInt8→Bag) (w:List Int) (t:T):Rl:=fun x y=>decide (RelP w (Lang m t) x y)
theorem says_then {w:List Int} {r y:Rl} {L K:List Int→Prop} (h1:Says w r L) (h2:Says w y K):Says w (thenB (w.length+1) r y) (LCat L K):=fun a b ha hb=>by
 rw [←rel_cat]
 show thenK r y a (w.length+1) b=true↔_
 rw [thenK_iff]
 constructor
 ·rintro ⟨q,hq,h3,h4⟩;exact ⟨q,hq,(h1 a q ha hq).1 h3,(h2 q b hq hb).1 h4⟩
 ·rintro ⟨q,hq,h3,h4⟩;exact ⟨q,hq,(h1 a q ha hq).2 h3,(h2 q b hq hb).2 h4⟩
theorem says_nil {w:List Int}:Says w (fun i j=>decide (i=j)) (fun u=>u=[]):=fun a b ha hb=>by
 rw [rel_nil ha,decide_eq_true_eq]
theorem says_congr {w:List Int} {r:Rl} {L K:List Int→Prop} (h:Says w r L) (hk:∀ u,L u↔K u):Says w r K:=fun a b ha hb=>by
 rw [h a b ha hb];unfold RelP;rw [hk]
theorem says_pow {w:List Int} {y:Rl} {L:List Int→Prop} (h:Says w y L):∀ k,Says w (powB (w.length+1) y k) (LPow L k)
 | 0=>says_nil
 | k+1=>says_then (says_pow h k) h
theorem says_times {w:List Int} {y:Rl} {m:List UInt8→Bag} {t:T} {lo hi:Int} (hlo:0≤lo) (h:Says w y (Lang m t)):Says w (timesB (w.length+1) lo.toNat hi y) (Lang m (.times lo hi t)):=fun a b ha hb=>by
 rw [timesB_iff]
 unfold TimesP RelP
 simp only [Lang]
 constructor
 ·rintro ⟨k,h1,h2,h3⟩
  obtain ⟨h4,h5,h6⟩:=(says_pow h k a b ha hb).1 h3
  exact ⟨h4,h5,k,by omega,h2,h6⟩
 ·rintro ⟨h4,h5,k,h1,h2,h3⟩
  exact ⟨k,by omega,h2,(says_pow h k a b ha hb).2 ⟨h4,h5,h3⟩⟩
theorem says_name {w:List Int} {m:List UInt8→Bag} {s:List UInt8}:Says w (fun a b=>decide (a < w.length)&&(decide (b=a+1)&&decide (w.getD a 0∈(m s).list))) (Lang m (.name s)):=fun a b ha hb=>by
 rw [Bool.and_eq_true,Bool.and_eq_true,decide_eq_true_eq,decide_eq_true_eq,decide_eq_true_eq]
 unfold RelP
 simp only [Lang]
 constructor
 ·rintro ⟨h1,rfl,h2⟩
  exact ⟨by omega,by omega,_,sch_one h1,h2⟩
 ·rintro ⟨h1,h2,x,h3,h4⟩
  have:=congrArg List.length h3
  rw [sch_len h1 h2] at this
  simp at this
  obtain rfl:b=a+1:=by omega
  rw [sch_one (by omega)] at h3
  injection h3 with h3 _
  exact ⟨by omega,rfl,by rw [h3];exact h4⟩
theorem or_says {w:List Int} {r y:Rl} {L K:List Int→Prop} (h1:Says w r L) (h2:Says w y K):Says w (orB r y) (fun u=>L u∨K u):=fun a b ha hb=>by
 show (r a b||y a b)=true↔_
 rw [Bool.or_eq_true,h1 a b ha hb,h2 a b ha hb]
 unfold RelP
 constructor
 ·rintro (⟨h3,h4,h5⟩ | ⟨h3,h4,h5⟩)
  ·exact ⟨h3,h4,.inl h5⟩
  ·exact ⟨h3,h4,.inr h5⟩
 ·rintro ⟨h3,h4,h5 | h5⟩
  ·exact .inl ⟨h3,h4,h5⟩
  ·exact .inr ⟨h3,h4,h5⟩
theorem says_none {w:List Int}:Says w (fun _ _=>false) (fun _=>False):=fun a b _ _=>⟨(fun h=>by cases h),(fun h=>h.2.2.elim)⟩
def AllR (m:List UInt8→Bag) (w:List Int) (e:List Pt) (i:Nat) (al:List Rl):Prop:=al.length=i∧∀ (b:Nat) (u:T),u.ok=true→AtP e b (T.flat b u)→b+u.size - 1 < i→Says w (al.getD (b+u.size - 1) rl0) (Lang m u)
theorem allR_snoc {m:List UInt8→Bag} {w:List Int} {e:List Pt} {i:Nat} {al:List Rl} {r:Rl} (h:AllR m w e i al) (hr:∀ (b:Nat) (u:T),u.ok=true→AtP e b (T.flat b u)→b+u.size - 1=i→Says w r (Lang m u)):AllR m w e (i+1) (al++[r]):=by
 refine ⟨by simp [h.1],fun b u hok hat hlt=>?_⟩
 by_cases e1:b+u.size - 1=i
 ·rw [e1,List.getD_eq_getElem?_getD,List.getElem?_append_right (by rw [h.1];omega),h.1,Nat.sub_self]
  exact hr b u hok hat e1
 ·rw [List.getD_eq_getElem?_getD,List.getElem?_append_left (by rw [h.1];omega),←List.getD_eq_getElem?_getD]
  exact h.2 b u hok hat (by omega)
def rowR (n:Nat) (al:List Rl) (ks:List Int):Rl:=ks.foldl (fun r k=>thenB n r (al.getD k.toNat rl0)) (fun i j=>decide (i=j))
def anyR (al:List Rl) (ks:List Int):Rl:=ks.foldl (fun r k=>orB r (al.getD k.toNat rl0)) (fun _ _=>false)
theorem take_k {ks:List Int} {k:Nat} (h:k < ks.length):ks.take (k+1)=ks.take k++[ks.getD k 0]:=by
 rw [List.take_add_one,List.getD_eq_getElem?_getD,List.getElem?_eq_getElem h];rfl
theorem rowR_succ {n:Nat} {al:List Rl} {ks:List Int} {k:Nat} (h:k < ks.length):rowR n al (ks.take (k+1))=thenB n (rowR n al (ks.take k)) (al.getD (ks.getD k 0).toNat rl0):=by
 unfold rowR;rw [take_k h,List.foldl_append];rfl
theorem anyR_succ {al:List Rl} {ks:List Int} {k:Nat} (h:k < ks.length):anyR al (ks.take (k+1))=orB (anyR al (ks.take k)) (al.getD (ks.getD k 0).toNat rl0):=by
 unfold anyR;rw [take_k h,List.foldl_append];rfl
def nameR_ (m:List UInt8→Bag) (w:List Int) (s:List UInt8):Rl:=fun a b=>decide (a < w.length)&&(decide (b=a+1)&&decide (w.getD a 0∈(m s).list))
noncomputable def partR (m:List UInt8→Bag) (w:List Int) (al:List Rl) (p:Pt):Rl :=
 if p.kind=1 then nameR_ m w p.name else if p.kind=2 then rowR (w.length+1) al p.kids else if p.kind=3 then anyR al p.kids else timesB (w.length+1) p.low.toNat p.high (al.getD (p.kids.getD 0 0).toNat rl0)
section
variable {m:List UInt8→Bag} {w:List Int} {e:List Pt} {i b:Nat} {al:List Rl}
theorem kid_says (h:AllR m w e i al) {u:T} (hok:u.ok=true) (hat:AtP e b (T.flat b u)) (hi:b+u.size - 1=i) {k:Nat} (hk:k < u.kidsT.length):Says w (al.getD ((rootsL b u.kidsT).getD k 0).toNat rl0) (Lang m (u.kidsT.getD k default))∧0≤(rootsL b u.kidsT).getD k 0∧(rootsL b u.kidsT).getD k 0 < (i:Int):=by
  have hka:=kids_at' hat hk
  have hroot:=roots_get u.kidsT b k hk
  have hks:=(u.kidsT.getD k default).size_pos
  have hok':(u.kidsT.getD k default).ok=true:=okL_at (kids_ok hok) k hk
  have hlt:b+T.sizeL (u.kidsT.take k)+(u.kidsT.getD k default).size≤b+T.sizeL u.kidsT:=by
    have h1:=T.sizeL_snoc (u.kidsT.take k) (u.kidsT.getD k default)
    rw [←take_snoc hk] at h1
    have h2:∀ (ts:List T) (q:Nat),T.sizeL (ts.take q)≤T.sizeL ts:=by
      intro ts
      induction ts with
      | nil=>intro q;simp
      | cons t ts ih => intro q; cases q with
        | zero=>simp [T.sizeL]
        | succ q=>have:=ih q;simp only [List.take_succ_cons,T.sizeL];omega
    have:=h2 u.kidsT (k+1)
    omega
  have hsz:T.sizeL u.kidsT+1≤u.size:=by
    cases u with
    | name s=>simp [T.kidsT] at hk
    | times lo hi t=>simp [T.kidsT,T.sizeL,T.size]
    | many k ts=>simp [T.kidsT,T.size]
  rw [hroot]
  unfold T.root
  refine ⟨?_,by omega,by omega⟩
  have:=h.2 _ _ hok' hka (by omega)
  rwa [show (((b+T.sizeL (u.kidsT.take k)+(u.kidsT.getD k default).size:Nat):Int) - 1).toNat=b+T.sizeL (u.kidsT.take k)+(u.kidsT.getD k default).size - 1 by omega]
theorem says_row (h:AllR m w e i al) {u:T} (hok:u.ok=true) (hat:AtP e b (T.flat b u)) (hi:b+u.size - 1=i):∀ k,k≤u.kidsT.length→Says w (rowR (w.length+1) al ((rootsL b u.kidsT).take k)) (LSeq m (u.kidsT.take k))
  | 0, _ => by
    have:Says w (fun i j=>decide (i=j)) (LSeq m []):=says_congr says_nil (fun u=>by simp [LSeq])
    simpa [rowR] using this
  | k + 1, hk => by
    rw [rowR_succ (by rw [rootsL_len];omega),take_snoc (by omega)]
    exact says_congr (says_then (says_row h hok hat hi k (by omega)) (kid_says h hok hat hi (by omega)).1) (fun u=>lseq_snoc.symm)
theorem says_any (h:AllR m w e i al) {u:T} (hok:u.ok=true) (hat:AtP e b (T.flat b u)) (hi:b+u.size - 1=i):∀ k,k≤u.kidsT.length→Says w (anyR al ((rootsL b u.kidsT).take k)) (LAny m (u.kidsT.take k))
  | 0, _ => by
    have:Says w (fun _ _=>false) (LAny m []):=says_congr says_none (fun u=>by simp [LAny])
    simpa [anyR] using this
  | k + 1, hk => by
    rw [anyR_succ (by rw [rootsL_len];omega),take_snoc (by omega)]
    exact says_congr (or_says (says_any h hok hat hi k (by omega)) (kid_says h hok hat hi (by omega)).1) (fun u=>lany_snoc.symm)
theorem says_part (h:AllR m w e i al) {u:T} (hok:u.ok=true) (hat:AtP e b (T.flat b u)) (hi:b+u.size - 1=i):Says w (partR m w al (u.top b)) (Lang m u):=by
  have hkid:=top_kids b u
  have hkd:=top_kind b u
  have hkl:=rootsL_len u.kidsT b
  cases hu:u with
  | name s=>unfold partR;rw [if_pos (by rfl)];exact says_name
  | times lo hi2 t =>
    have hc:=w_count b (t:=u) (by rw [hu];rfl) hok
    have hk:=kid_says h hok hat hi (k:=0) (by rw [hu];exact Nat.zero_lt_one)
    rw [←hkid] at hk
    subst hu
    unfold partR
    rw [if_neg (by show ¬ (4:Int)=1;decide),if_neg (by show ¬ (4:Int)=2;decide),if_neg (by show ¬ (4:Int)=3;decide)]
    exact says_times hc.2.1 hk.1
  | many k ts =>
    have hr:=says_row h hok hat hi u.kidsT.length (Nat.le_refl _)
    have ha:=says_any h hok hat hi u.kidsT.length (Nat.le_refl _)
    rw [List.take_of_length_le (by omega),List.take_length,←hkid] at hr ha
    subst hu
    have hk:=hok
    simp only [T.ok,Bool.and_eq_true,Bool.or_eq_true,decide_eq_true_eq] at hk
    unfold partR
    rcases hk.1.1 with e2 | e2
    · subst e2
      rw [if_neg (by show ¬ (2:Int)=1;decide),if_pos (by rfl)]
      exact says_congr hr (fun u=>by simp [Lang,T.kidsT])
    · subst e2
      rw [if_neg (by show ¬ (3:Int)=1;decide),if_neg (by show ¬ (3:Int)=2;decide),if_pos (by rfl)]
      exact says_congr ha (fun u=>by simp [Lang,T.kidsT])
end
theorem hget_past {A H:List (Nat×HObj)} {o b k:Nat} (hA:∀ p∈A,p.1=o∨b≤p.1) (h1:k < b) (h2:k≠o):hget (A++H) k=hget H k:=by
  rw [hget_app]
  have:hget A k=none:=by
    induction A with
    | nil=>rfl
    | cons q A ih =>
      obtain ⟨j,y⟩:=q
      have hj:=hA _ (List.mem_cons_self ..)
      simp only at hj
      rw [hget_cons,hset_ne _ _ (by omega)]
      exact ih (fun p hp=>hA p (List.mem_cons_of_mem _ hp))
  rw [this]
open Classical in
noncomputable def fitB (m:List UInt8→Bag) (t:T) (w:List Int):Bool:=decide (Lang m t w)
theorem fitB_of {m:List UInt8→Bag} {t:T} {w:List Int} {r:Rl} (h:Says w r (Lang m t)):r 0 w.length=fitB m t w:=by
 classical
 rw [Bool.eq_iff_iff,h 0 w.length (by omega) (by omega)]
 unfold fitB RelP
 rw [decide_eq_true_eq,sch_all]
 exact ⟨fun h=>h.2.2,fun h=>⟨Nat.zero_le _,Nat.le_refl _,h⟩⟩
theorem rfits0_h (l:List Mn) (w:List Int) (hw:w.length≤1000):HPure Tryz.prog 25 [ptsV [],mnsV l,iListV w] (boolV (decide (w.length=0))):=by
 refine hpure_of Tryz.func25 rfl kr _ _ _ rfl 132 rfl rfl (fun w F=>?_)
 refine srg fun N h1=>sa<|snl h1<|srg fun N h2=>sm ?_
 refine s0 (hnl el_25) ?_
 refine s0 hai ?_
 refine sa<|snl h2<|hw_seq fun Nh3 h3=>srg fun N h4=>sm ?_
 refine s0 (hnl el_22) ?_
 refine s0 hqi ?_
 refine snl h4 ?_
 refine wc (fun hc0=>?_) (fun hc0=>?_)
 ·have hr0:=hc0;(try simp only [hcs,Int.reduceToNat] at hc0)
  refine srg fun N h5=>sm ?_
  refine s0 (hnl el_25) ?_
  refine s0 hqi ?_
  refine sa<|snl h5<|hw_ret<|hq_then_ret ?_
  refine hq_ret1 rfl (rval_tmp rfl) [] rfl pre0 ?_
  exact fz_bool (by rw [Bool.eq_iff_iff];simp)
 have hr0:=hc0;(try simp only [hcs,Int.reduceToNat] at hc0)
 exfalso;exact absurd hc0 (by simp)
theorem rfits_h (l:List Mn) (hB:MnB l) (t:T) (hok:t.ok=true) (hPB:PtB (T.flat 0 t)) (w_:List Int) (hw:w_.length≤900):HPure Tryz.prog 25 [ptsV (T.flat 0 t),mnsV l,iListV w_] (boolV (fitB (meansV l) t w_)):=by
 obtain ⟨e,he⟩:∃ e,e=T.flat 0 t:=⟨_,rfl⟩
 rw [←he] at hPB ⊢
 have hel:=hPB.1
 have hat0:AtP e 0 (T.flat 0 t):=by rw [he];exact ⟨[],[],by simp,rfl⟩
 have hsz:e.length=t.size:=by rw [he];exact T.flat_len 0 t
 have hps:=t.size_pos
 obtain ⟨n,hn⟩:∃ n,n=w_.length+1:=⟨_,rfl⟩
 have hn9:n≤1000:=by omega
 refine hpure_of Tryz.func25 rfl kr _ _ _ rfl 132 rfl rfl (fun w F=>?_)
 refine srg fun N h1=>sa<|snl h1<|srg fun N h2=>sm ?_
 refine s0 (hnl el_25) ?_
 refine s0 hai ?_
 refine sa<|snl h2<|hw_seq fun Nh3 h3=>srg fun N h4=>sm ?_
 refine s0 (hnl el_22) ?_
 refine s0 hqi ?_
 refine snl h4 ?_
 refine wc (fun hc0=>?_) (fun hc0=>?_)
 ·have hr0:=hc0;(try simp only [hcs,Int.reduceToNat] at hc0)
  exfalso;omega
 have hr0:=hc0;(try simp only [hcs,Int.reduceToNat] at hc0)
 refine hw_skip<|h3 _<|srg fun N h5=>sa<|snl h5<|hw_seq fun Nh6 h6=>srg fun N h7=>sa<|snl h7<|hw_block ?_
 refine hw_own 8 9208 1 94 ((rlsF n [])) rfl (by decide) rfl (c':=1) rfl ?_
 refine hw_loopc (α:=Nat×List Rl×Nat) (fun x c=>⟨132,[(0,.v (ptsV e)),(1,.v (mnsV l)),(2,.v (iListV w_)),(7,.v (intV (n:Int))),(8,.v (.os 9208 x.2.2 0 x.2.1.length)),(9,.v (intV (x.1:Int)))],[(9208,rlsO x.2.2 n x.2.1)],c⟩) (fun x=>x.1≤e.length∧AllR (meansV l) w_ e x.1 x.2.1) (fun x=>e.length - x.1) ((0,[],0)) (by exact ⟨Nat.zero_le _,rfl,fun b u hok hat h=>absurd h (Nat.not_lt_zero _)⟩) (hsub_of rfl (Nat.le_refl _) (tsr rfl (tsr rfl (tsr rfl (TmSub.cons rfl (sb_int om) tsa)))) hsa) (fun x c hx NhL8 hL8=>?_)
 revert hx hL8;obtain ⟨i,al,gr⟩:=x;intro hx hL8;dsimp only at hx hL8 ⊢
 obtain ⟨hi,hall⟩:=hx
 have hal:=hall.1
 refine hw_seq fun Nh9 h9=>srg fun N h10=>sm<|sm ?_
 refine s0 (hnl el_22) ?_
 refine s0 hli ?_
 refine snl h10 ?_
 refine wc (fun hc1=>?_) (fun hc1=>?_)
 ·have hr1:=hc1;(try simp only [hcs,Int.reduceToNat] at hc1)
  have hie:i < e.length:=om;let k1:=c;obtain ⟨b,u,huok,hat,hbi⟩:=sub_at t 0 hok hat0 i (Nat.zero_le _) om;obtain ⟨p,hp⟩:∃ p,p=e.getD i default:=⟨_,rfl⟩;have htop:=at_top hat;rw [hbi,←hp] at htop;have hkid:=top_kids b u;have hkd:=top_kind b u;rw [←htop.1] at hkid hkd;have hrl:=rootsL_len u.kidsT b;have hS:∀ b' u',u'.ok=true→AtP e b' (T.flat b' u')→b'+u'.size - 1=i→Says w_ (partR (meansV l) w_ al p) (Lang (meansV l) u'):=(fun b' u' h1 h2 h3=>by have h4:=at_top h2;rw [h3,←hp] at h4;rw [h4.1];exact says_part hall h1 h2 h3);have hks:=fun k (hk:k < u.kidsT.length)=>(kid_says hall huok hat hbi hk).2;rw [←hkid] at hks hrl;have hkl:p.kids.length≤100000:=(by have:=(hPB.2 i hie).1;rw [←hp] at this;exact this)
  refine hw_skip<|h9 _<|hw_seq fun Nh11 h11=>hw_block<|srg fun N h12=>sm<|sm ?_
  refine s0 (hix el_22) ?_
  refine s0 (HOp.val (v':=ptH p) (hop_load_fp ty_27 rfl (nb rfl) (fun h=>(by cases h))) ((by rw [hp];rfl))) ?_
  refine hm_1 10 (hop_alloc (id:=10) (sz:=5) zc_27 rfl rfl (nb rfl) (nb rfl)) rfl rfl pre0 rfl rfl (c':=c+1) rfl ?_
  refine sw (c+2) ty_27 ?_
  refine snl h12<|hw_seq fun Nh13 h13=>?_
  by_cases hk1:p.kind=1
  ·skip
   refine hw_region<|sm ?_
   refine hf_callR 36 (xs:=[_]) (pre:=[]) (rnone_h n hn9 _) ⟨rfl,trivial⟩ pre0 rfl rfl (fun x1 c1 hrb=>?_)
   obtain ⟨go,ob0⟩:=x1
   (try dsimp only)
   refine sa<|snl h13<|hw_seq fun Nh14 h14=>hw_seq fun Nh15 h15=>?_
   refine (hsub_hp (hpSub_swap (by rfl))).wp ?_
   refine hw_region ?_
   refine sf fd_27_0 ?_
   refine sl ty_3 ?_
   refine snl h15<|hw_block<|srg fun N h16=>?_
   refine s0 hqi ?_
   refine sa<|snl h16 ?_
   refine wc (fun hc2=>?_) (fun hc2=>?_)
   ·have hr2:=hc2;(try simp only [hcs,Int.reduceToNat] at hc2)
    refine srg fun N h17=>sm ?_
    refine sf fd_27_3 ?_
    refine sl ty_9 ?_
    refine s0 (hop_call0 (xs:=[_,_]) (means_h l hB p.name) ⟨rfl,⟨rfl,trivial⟩⟩ ⟨fe,⟨fe,trivial⟩⟩) ?_
    refine sa<|snl h17<|srg fun N h18=>sa<|snl h18<|hw_block ?_
    refine hw_loopc (α:=Nat×(Nat→HObj)) (fun x c=>⟨132,[(0,.v (ptsV e)),(1,.v (mnsV l)),(2,.v (iListV w_)),(7,.v (intV (n:Int))),(8,.v (.os 9208 gr 0 al.length)),(9,.v (intV (i:Int))),(11,.v (.os 9306 go 0 n)),(12,.v (iListV (meansV l p.name).list)),(13,.v (intV (x.1:Int)))],((9306,reO go n (famF 10000 x.2))::(9208,rlsO gr n al)::famP 10000 x.2 (fun _=>true) n),c⟩) (fun x=>x.1≤w_.length∧RowsB n n (fun a b=>decide (a < x.1)&&(decide (b=a+1)&&decide (w_.getD a 0∈(meansV l p.name).list))) x.2) (fun x=>w_.length - x.1) ((0,ob0)) (by exact ⟨Nat.zero_le _,fun k hk=>by obtain ⟨g,h,e,hh⟩:=hrb k hk;exact ⟨g,h,e,fun j hj=>by rw [hh j hj];simp⟩⟩) (hsub_of rfl (Nat.le_refl _) tsa (hsr rfl (hsr rfl (by repeat (first | exact HpSub.refl _ | exact hpSub_nil | refine HpSub.skip ?_ rfl))))) (fun x c hx NhL19 hL19=>?_)
    revert hx hL19;obtain ⟨k,ob⟩:=x;intro hx hL19;dsimp only at hx hL19 ⊢
    obtain ⟨hk,hrw⟩:=hx
    refine hw_seq fun Nh20 h20=>srg fun N h21=>sm<|sm ?_
    refine s0 (hnl el_25) ?_
    refine s0 hli ?_
    refine snl h21 ?_
    refine wc (fun hc3=>?_) (fun hc3=>?_)
    ·have hr3:=hc3;(try simp only [hcs,Int.reduceToNat] at hc3)
     have hkw:k < w_.length:=om;have hkn:k < n:=om;obtain ⟨gi,hi',hoi,hhi⟩:=hrw k hkn
     refine hw_skip<|h20 _<|hw_seq fun Nh22 h22=>hw_block ?_
     refine (hsub_borrow2 9306 9377 10000 k n go gi n 1 _ _ (boF hi') [(9208,rlsO gr n al)] ob hoi hkn (by decide) (by decide) (by decide) rfl (c':=c+1) rfl).wp ?_
     refine hd_start ?_
     refine dm 1 ?_
     refine dm 2 ?_
     refine hd_q 62 (hol_ia_os el_94 rfl rfl om om) rfl rfl (pre1 rfl) rfl rfl (k':=3) rfl ?_
     refine hd_q 63 (HOp.val (v':=HV.os 9377 c 0 n) (hol_load ty_97 rfl (by omega) (nb rfl) (fun h=>(by rfl))) ((by exact famB_at))) rfl rfl (pre1 rfl) rfl rfl (k':=4) rfl ?_
     refine dm 5 ?_
     refine d0 6 hai ?_
     refine dm 7 ?_
     refine dm 8 ?_
     refine dm 9 ?_
     refine d0 10 (hix el_25) ?_
     refine d0 11 (hlf ty_3) ?_
     refine d0 12 (hop_call0 (xs:=[_,_]) (has03_h (meansV l p.name).list (list_few _) (w_.getD k 0)) ⟨rfl,⟨rfl,trivial⟩⟩ ⟨fe,⟨fe,trivial⟩⟩) ?_
     refine hd_q 72 (hol_ia_os el_97 rfl rfl om om) rfl rfl (pre1 rfl) rfl rfl (k':=13) rfl ?_
     refine hd_s1 (hol_store ty_4 rfl rfl rfl rfl om (nb rfl) (nb rfl)) rfl rfl (pre1 rfl) (k':=14) rfl ?_
     refine hd_nil kr kr (c':=c+15) rfl ?_
     refine hq_block<|h22 _<|hw_region<|sm ?_
     refine s0 hai ?_
     refine sa<|hseq_nil ?_
     exact hL19 ((k+1,fup ob k (boO (c+15) n (fun j=>decide (j=k+1)&&decide (w_.getD k 0∈(meansV l p.name).list))))) _ _ (by (try dsimp only);exact ⟨by omega,rows_fup hrw (fun j hj=>by simp) (fun a b hk hj e=>by have:(a < k)=(a < k+1):=(by apply propext;omega);simp only [this])⟩) (by (try dsimp only);omega) (HSub.trans (hsub_hp (HpSub.cons (o':=reO go n (famB 10000 ob k 9377 c n)) rfl (OSub.refl _) (HpSub.cons (o':=boO c n (fun j=>decide (j=k+1)&&decide (w_.getD k 0∈(meansV l p.name).list))) rfl (osub_bo fun q hq=>by rw [upd1_at];by_cases e2:q=k+1;(rw [if_pos om];show boolV _=boolV (decide (q=k+1)&&_);rw [decide_eq_true e2,Bool.true_and]);(rw [if_neg om];show boolV (hi' q)=boolV (decide (q=k+1)&&_);rw [hhi q hq,decide_eq_false e2];simp)) (HpSub.cons (o':=rlsO gr n al) rfl (OSub.refl _) (by repeat (first | exact HpSub.refl _ | refine HpSub.skip ?_ rfl)))))) (HSub.trans (hsub_back 9306 9377 10000 k n go c n 1 0 _ _ (boF (fun j=>decide (j=k+1)&&decide (w_.getD k 0∈(meansV l p.name).list))) [(9208,rlsO gr n al)] ob hkn (by decide) (by decide) (by decide) rfl) (hsub_of rfl (Nat.le_refl _) tsa (HpSub.refl _))))
    have hr3:=hc3;(try simp only [hcs,Int.reduceToNat] at hc3)
    obtain rfl:k=w_.length:=om
    refine hw_exit ?_
    refine hq_then_exit<|hq_then_exit<|hq_block_here<|hq_block<|h14 _ ?_
    refine (hsub_shr 11 (relL go n ob) (fam_dupc (by decide) n) (fam_getc rfl (fun k hk=>by rw [hget_skip rfl,hget_skip rfl];exact hget_fam_at hk)) rfl (fz_rel hrw)).wp ?_;refine (hsub_hp (HpSub.cons ((hget_past (k:=9208) relL_keys (by decide) (by decide)).trans rfl) (OSub.refl _) HpSub.nil)).wp ?_
    refine hw_region<|sm<|sm ?_
    refine hm_1 118 (hop_buildSlice (id:=118) (hs:=[_]) ei_92 (nb rfl) rfl (nb rfl) ⟨rfl,rfl,rfl,rfl,trivial⟩) rfl rfl pre0 rfl rfl (c':=c+1) rfl ?_
    refine hm_1 119 (hol_append ei_92 (nb rfl) rfl om (nb rfl) (srl_os0 rfl (nb rfl)) om rfl) rfl rfl (preC rfl (pre1 rfl)) rfl rfl (c':=c+2) rfl ?_
    refine sa<|hseq_nil<|hq_block<|h11 _<|hw_region<|sm ?_
    refine s0 hai ?_
    refine sa<|hseq_nil ?_
    exact hL8 ((i+1,al++[nameR_ (meansV l) w_ p.name],c+1)) _ _ (by (try dsimp only);exact ⟨by omega,allR_snoc hall (fun b' u' h1 h2 h3=>by have:=hS b' u' h1 h2 h3;unfold partR at this;rw [if_pos hk1] at this;exact this)⟩) (by (try dsimp only);omega) (hsub_of rfl (Nat.le_refl _) (tsr rfl (tsr rfl (tsr rfl (tsr rfl (TmSub.cons rfl (sb_os (by simp)) tsa))))) (HpSub.cons rfl (osub_snoc (enc:=fun x _=>relH n x) (d:=rl0) rfl (fun i j _ _=>.refl _) (fun j hj=>.refl _)) HpSub.nil))
   have hr2:=hc2;(try simp only [hcs,Int.reduceToNat] at hc2)
   exfalso;exact hc2 hk1
  ·skip
   refine hw_region<|sm ?_
   refine s0 (hop_call0 (xs:=[_]) (rnoneP_h n hn9) ⟨rfl,trivial⟩ ⟨fe,trivial⟩) ?_
   refine sa<|snl h13<|hw_seq fun Nh23 h23=>srg fun N h24=>?_
   refine sf fd_27_0 ?_
   refine sl ty_3 ?_
   refine snl h24<|hw_block<|srg fun N h25=>?_
   refine s0 hqi ?_
   refine sa<|snl h25 ?_
   refine wc (fun hc2=>?_) (fun hc2=>?_)
   ·have hr2:=hc2;(try simp only [hcs,Int.reduceToNat] at hc2)
    exfalso;exact hk1 hc2
   have hr2:=hc2;(try simp only [hcs,Int.reduceToNat] at hc2)
   refine srg fun N h26=>?_
   refine s0 hqi ?_
   refine sa<|snl h26 ?_
   refine wc (fun hc4=>?_) (fun hc4=>?_)
   ·have hr4:=hc4;(try simp only [hcs,Int.reduceToNat] at hc4)
    refine srg fun N h27=>sm ?_
    refine s0 (hop_call0 (xs:=[_]) (rsame_h n hn9) ⟨rfl,trivial⟩ ⟨fe,trivial⟩) ?_
    refine sa<|snl h27<|srg fun N h28=>sa<|snl h28<|hw_block ?_
    refine hw_loopc (α:=Nat) (fun x c=>⟨132,[(0,.v (ptsV e)),(1,.v (mnsV l)),(2,.v (iListV w_)),(7,.v (intV (n:Int))),(8,.v (.os 9208 gr 0 al.length)),(9,.v (intV (i:Int))),(10,.v (.pt 10 k1 0 0)),(11,.v (relH n (rowR n al (p.kids.take x)))),(14,.v (intV (x:Int)))],[(9208,rlsO gr n al),(10,⟨k1,1,5,27,0,fun _=>ptF p⟩)],c⟩) (fun x=>x≤p.kids.length) (fun x=>p.kids.length - x) (0) om (hsub_of rfl (Nat.le_refl _) tsa hsa) (fun k c hx NhL29 hL29=>?_)
    (try dsimp only at hx hL29 ⊢)
    refine hw_seq fun Nh30 h30=>srg fun N h31=>sm ?_
    refine sf fd_27_4 ?_
    refine sl ty_25 ?_
    refine s0 (hnl el_25) ?_
    refine s0 hli ?_
    refine snl h31 ?_
    refine wc (fun hc5=>?_) (fun hc5=>?_)
    ·have hr5:=hc5;(try simp only [hcs,Int.reduceToNat] at hc5)
     have hkp:k < p.kids.length:=om;have hkk:=hks k om
     refine hw_skip<|h30 _<|hw_seq fun Nh32 h32=>hw_block<|hw_region<|sm<|sm ?_
     refine sf fd_27_4 ?_
     refine sl ty_25 ?_
     refine sm ?_
     refine s0 (hix el_25) ?_
     refine s0 (HOp.val (v':=intV (p.kids.getD k 0)) (hop_load_fp ty_3 rfl (nb rfl) (fun h=>(by rfl))) (rfl)) ?_
     refine st1 (hol_ia_os el_92 rfl rfl om om) rfl rfl rfl ?_
     refine st1 (HOp.val (v':=relH n (al.getD (p.kids.getD k 0).toNat rl0)) (hol_load ty_94 rfl (by omega) (nb rfl) (fun h=>(by rfl))) ((by show relH n (al.getD (0+_) rl0)=_;rw [Nat.zero_add]))) rfl rfl rfl ?_
     refine s0 (hop_call0 (xs:=[_,_]) (rthen_h n hn9 (rowR n al (p.kids.take k)) (al.getD (p.kids.getD k 0).toNat rl0)) ⟨rfl,⟨rfl,trivial⟩⟩ ⟨fe,⟨fe,trivial⟩⟩) ?_
     refine sa<|hseq_nil<|hq_block<|h32 _<|hw_region<|sm ?_
     refine s0 hai ?_
     refine sa<|hseq_nil ?_
     exact hL29 (k+1) _ _ (by (try dsimp only);omega) (by (try dsimp only);omega) (hsub_of rfl (Nat.le_refl _) (tsr rfl (tsr rfl (tsr rfl (tsr rfl (tsr rfl (tsr rfl (tsr rfl (TmSub.cons rfl (by rw [rowR_succ hkp];exact .refl _) tsa)))))))) hsa)
    have hr5:=hc5;(try simp only [hcs,Int.reduceToNat] at hc5)
    have hkp:k=p.kids.length:=om;rw [hkp,List.take_length]
    refine hw_exit ?_
    refine hq_then_exit<|hq_then_exit<|hq_block_here<|hq_block<|h23 _<|hw_region<|sm<|sm ?_
    refine hm_1 118 (hop_buildSlice (id:=118) (hs:=[_]) ei_92 (nb rfl) rfl (nb rfl) ⟨rfl,rfl,rfl,rfl,trivial⟩) rfl rfl pre0 rfl rfl (c':=c+1) rfl ?_
    refine hm_1 119 (hol_append ei_92 (nb rfl) rfl om (nb rfl) (srl_os0 rfl (nb rfl)) om rfl) rfl rfl (preC rfl (pre1 rfl)) rfl rfl (c':=c+2) rfl ?_
    refine sa<|hseq_nil<|hq_block<|h11 _<|hw_region<|sm ?_
    refine s0 hai ?_
    refine sa<|hseq_nil ?_
    exact hL8 ((i+1,al++[rowR n al p.kids],c+1)) _ _ (by (try dsimp only);exact ⟨by omega,allR_snoc hall (fun b' u' h1 h2 h3=>by have:=hS b' u' h1 h2 h3;unfold partR at this;rw [if_neg hk1,if_pos hc4,←hn] at this;exact this)⟩) (by (try dsimp only);omega) (hsub_of rfl (Nat.le_refl _) (tsr rfl (tsr rfl (tsr rfl (tsr rfl (TmSub.cons rfl (sb_os (by simp)) tsa))))) (HpSub.cons rfl (osub_snoc (enc:=fun x _=>relH n x) (d:=rl0) rfl (fun i j _ _=>.refl _) (fun j hj=>.refl _)) HpSub.nil))
   have hr4:=hc4;(try simp only [hcs,Int.reduceToNat] at hc4)
   refine srg fun N h33=>?_
   refine s0 hqi ?_
   refine sa<|snl h33 ?_
   refine wc (fun hc6=>?_) (fun hc6=>?_)
   ·have hr6:=hc6;(try simp only [hcs,Int.reduceToNat] at hc6)
    refine srg fun N h34=>sa<|snl h34<|hw_block ?_
    refine hw_loopc (α:=Nat) (fun x c=>⟨132,[(0,.v (ptsV e)),(1,.v (mnsV l)),(2,.v (iListV w_)),(7,.v (intV (n:Int))),(8,.v (.os 9208 gr 0 al.length)),(9,.v (intV (i:Int))),(10,.v (.pt 10 k1 0 0)),(11,.v (relH n (anyR al (p.kids.take x)))),(15,.v (intV (x:Int)))],[(9208,rlsO gr n al),(10,⟨k1,1,5,27,0,fun _=>ptF p⟩)],c⟩) (fun x=>x≤p.kids.length) (fun x=>p.kids.length - x) (0) om (hsub_of rfl (Nat.le_refl _) tsa hsa) (fun k c hx NhL35 hL35=>?_)
    (try dsimp only at hx hL35 ⊢)
    refine hw_seq fun Nh36 h36=>srg fun N h37=>sm ?_
    refine sf fd_27_4 ?_
    refine sl ty_25 ?_
    refine s0 (hnl el_25) ?_
    refine s0 hli ?_
    refine snl h37 ?_
    refine wc (fun hc7=>?_) (fun hc7=>?_)
    ·have hr7:=hc7;(try simp only [hcs,Int.reduceToNat] at hc7)
     have hkp:k < p.kids.length:=om;have hkk:=hks k om
     refine hw_skip<|h36 _<|hw_seq fun Nh38 h38=>hw_block<|hw_region<|sm<|sm ?_
     refine sf fd_27_4 ?_
     refine sl ty_25 ?_
     refine sm ?_
     refine s0 (hix el_25) ?_
     refine s0 (HOp.val (v':=intV (p.kids.getD k 0)) (hop_load_fp ty_3 rfl (nb rfl) (fun h=>(by rfl))) (rfl)) ?_
     refine st1 (hol_ia_os el_92 rfl rfl om om) rfl rfl rfl ?_
     refine st1 (HOp.val (v':=relH n (al.getD (p.kids.getD k 0).toNat rl0)) (hol_load ty_94 rfl (by omega) (nb rfl) (fun h=>(by rfl))) ((by show relH n (al.getD (0+_) rl0)=_;rw [Nat.zero_add]))) rfl rfl rfl ?_
     refine s0 (hop_call0 (xs:=[_,_]) (rwith_h n hn9 (anyR al (p.kids.take k)) (al.getD (p.kids.getD k 0).toNat rl0)) ⟨rfl,⟨rfl,trivial⟩⟩ ⟨fe,⟨fe,trivial⟩⟩) ?_
     refine sm ?_
     refine s0 hex ?_
     refine s0 hex ?_
     refine sa<|hseq_nil<|hq_block<|h38 _<|hw_region<|sm ?_
     refine s0 hai ?_
     refine sa<|hseq_nil ?_
     exact hL35 (k+1) _ _ (by (try dsimp only);omega) (by (try dsimp only);omega) (hsub_of rfl (Nat.le_refl _) (tsr rfl (tsr rfl (tsr rfl (tsr rfl (tsr rfl (tsr rfl (tsr rfl (TmSub.cons rfl (by rw [anyR_succ hkp];exact .refl _) tsa)))))))) hsa)
    have hr7:=hc7;(try simp only [hcs,Int.reduceToNat] at hc7)
    have hkp:k=p.kids.length:=om;rw [hkp,List.take_length]
    refine hw_exit ?_
    refine hq_then_exit<|hq_then_exit<|hq_block_here<|hq_block<|h23 _<|hw_region<|sm<|sm ?_
    refine hm_1 118 (hop_buildSlice (id:=118) (hs:=[_]) ei_92 (nb rfl) rfl (nb rfl) ⟨rfl,rfl,rfl,rfl,trivial⟩) rfl rfl pre0 rfl rfl (c':=c+1) rfl ?_
    refine hm_1 119 (hol_append ei_92 (nb rfl) rfl om (nb rfl) (srl_os0 rfl (nb rfl)) om rfl) rfl rfl (preC rfl (pre1 rfl)) rfl rfl (c':=c+2) rfl ?_
    refine sa<|hseq_nil<|hq_block<|h11 _<|hw_region<|sm ?_
    refine s0 hai ?_
    refine sa<|hseq_nil ?_
    exact hL8 ((i+1,al++[anyR al p.kids],c+1)) _ _ (by (try dsimp only);exact ⟨by omega,allR_snoc hall (fun b' u' h1 h2 h3=>by have:=hS b' u' h1 h2 h3;unfold partR at this;rw [if_neg hk1,if_neg hc4,if_pos hc6] at this;exact this)⟩) (by (try dsimp only);omega) (hsub_of rfl (Nat.le_refl _) (tsr rfl (tsr rfl (tsr rfl (tsr rfl (TmSub.cons rfl (sb_os (by simp)) tsa))))) (HpSub.cons rfl (osub_snoc (enc:=fun x _=>relH n x) (d:=rl0) rfl (fun i j _ _=>.refl _) (fun j hj=>.refl _)) HpSub.nil))
   have hr6:=hc6;(try simp only [hcs,Int.reduceToNat] at hc6)
   have hk4:u.kind=4:=kind2 huok (by rw [←hkd];exact hk1) (by rw [←hkd];exact hc6) (by rw [←hkd];exact hc4);have hct:=w_count b hk4 huok;rw [←htop.1] at hct;obtain ⟨lo2,hi2,u2,hu2⟩:=w_times hk4 huok;have h0k:0 < u.kidsT.length:=(by rw [hu2];exact Nat.zero_lt_one);have hkk:=hks 0 h0k
   refine hd_start ?_
   refine hd_q 39 (HOp.val (v':=ptH p) (hol_load ty_27 rfl (nb rfl) (nb rfl) (fun h=>(by cases h))) ((by rfl))) rfl rfl (pre1 rfl) rfl rfl (k':=1) rfl ?_
   refine dm 2 ?_
   refine df 3 fd_27_4 ?_
   refine dl 4 ty_25 ?_
   refine d0 5 (hix el_25) ?_
   refine d0 6 (HOp.val (v':=intV (p.kids.getD 0 0)) (hop_load_fp ty_3 rfl (nb rfl) (fun h=>(by rfl))) (rfl)) ?_
   refine hd_q 45 (hol_ia_os el_92 rfl rfl om om) rfl rfl (pre1 rfl) rfl rfl (k':=7) rfl ?_
   refine hd_q 46 (HOp.val (v':=relH n (al.getD (p.kids.getD 0 0).toNat rl0)) (hol_load ty_94 rfl (by omega) (nb rfl) (fun h=>(by rfl))) ((by show relH n (al.getD (0+_) rl0)=_;rw [Nat.zero_add]))) rfl rfl (pre1 rfl) rfl rfl (k':=8) rfl ?_
   refine d0 9 (hop_call0 (xs:=[_,_]) (rtimes_h n hn9 p hct.2.1 hct.2.2.1 hct.2.2.2.1 (al.getD (p.kids.getD 0 0).toNat rl0)) ⟨rfl,⟨rfl,trivial⟩⟩ ⟨fe,⟨fe,trivial⟩⟩) ?_
   refine d0 10 (hop_assign rfl) ?_
   refine hd_nil kr kr (c':=c+12) rfl ?_
   refine hq_block<|h23 _<|hw_region<|sm<|sm ?_
   refine hm_1 118 (hop_buildSlice (id:=118) (hs:=[_]) ei_92 (nb rfl) rfl (nb rfl) ⟨rfl,rfl,rfl,rfl,trivial⟩) rfl rfl pre0 rfl rfl (c':=c+13) rfl ?_
   refine hm_1 119 (hol_append ei_92 (nb rfl) rfl om (nb rfl) (srl_os0 rfl (nb rfl)) om rfl) rfl rfl (preC rfl (pre1 rfl)) rfl rfl (c':=c+14) rfl ?_
   refine sa<|hseq_nil<|hq_block<|h11 _<|hw_region<|sm ?_
   refine s0 hai ?_
   refine sa<|hseq_nil ?_
   exact hL8 ((i+1,al++[timesB n p.low.toNat p.high (al.getD (p.kids.getD 0 0).toNat rl0)],c+13)) _ _ (by (try dsimp only);exact ⟨by omega,allR_snoc hall (fun b' u' h1 h2 h3=>by have:=hS b' u' h1 h2 h3;unfold partR at this;rw [if_neg hk1,if_neg hc4,if_neg hc6,←hn] at this;exact this)⟩) (by (try dsimp only);omega) (hsub_of rfl (Nat.le_refl _) (tsr rfl (tsr rfl (tsr rfl (tsr rfl (TmSub.cons rfl (sb_os (by simp)) tsa))))) (HpSub.cons rfl (osub_snoc (enc:=fun x _=>relH n x) (d:=rl0) rfl (fun i j _ _=>.refl _) (fun j hj=>.refl _)) HpSub.nil))
 have hr1:=hc1;(try simp only [hcs,Int.reduceToNat] at hc1)
 have hie:i=e.length:=om;have hS:=hall.2 0 t hok hat0 om
 refine hw_exit ?_
 refine hq_then_exit<|hq_then_exit<|hq_block_here<|h6 _<|srg fun N h39=>sm<|sm ?_
 refine s0 (hnl el_22) ?_
 refine s0 (HOp.val (v':=intV ((t.size - 1:Nat):Int)) (hop_subi rfl rfl rfl (by omega) (by omega)) (congrArg intV (by omega))) ?_
 refine st1 (hol_ia_os el_92 rfl rfl om om) rfl rfl rfl ?_
 refine st1 (hol_load ty_94 rfl om (nb rfl) rq) rfl rfl rfl ?_
 refine s0 (hix el_94) ?_
 refine s0 (hlf ty_97) ?_
 refine sm ?_
 refine s0 (hnl el_25) ?_
 refine s0 (hix el_97) ?_
 refine s0 (hlf ty_4) ?_
 refine sa<|snl h39<|hw_ret ?_
 refine hq_ret1 rfl (rval_tmp rfl) [] rfl pre0 ?_
 refine fz_bool ?_;have hf:=fitB_of hS;rw [Nat.zero_add] at hf;rw [←hf];show al.getD (0+(t.size - 1)) rl0 0 w_.length=_;rw [Nat.zero_add]
section
variable (on:List Bag) (β:Nat→Bag) (ends:Bag)
def lastL (ps:List Int) (a:Int):Bool:=ps.any (fun p=>decide (a∈(onF on p.toNat).list)&&decide (p∈ends.list))
def nextL (ps:List Int) (a:Int):Bag:=ps.foldl (fun nx p=>if a∈(onF on p.toNat).list then bun nx (β p.toNat) else nx) Bag.zero
def goV:Bag→Bool→List Int→Bool
 | _,fits,[]=>fits
 | now,_,a::w=>goV (nextL on β now.list a) (lastL on ends now.list a) w
end
section
variable {on:List Bag} {β:Nat→Bag} {ends:Bag} {ps:List Int} {a:Int}
theorem lastL_succ {k q:Nat} (h:k < ps.length) (hq:ps.getD k 0=(q:Int)):lastL on ends (ps.take (k+1)) a=(lastL on ends (ps.take k) a||(decide (a∈(onF on q).list)&&decide ((q:Int)∈ends.list))):=by
 unfold lastL
 rw [take_k h,hq,List.any_append]
 simp
theorem nextL_succ {k q:Nat} (h:k < ps.length) (hq:ps.getD k 0=(q:Int)):nextL on β (ps.take (k+1)) a=if a∈(onF on q).list then bun (nextL on β (ps.take k) a) (β q) else nextL on β (ps.take k) a:=by
 unfold nextL
 rw [take_k h,hq,List.foldl_append]
 rfl
theorem nextL_ok (hβ:∀ q,(β q).ok):∀ (ps:List Int) (x:Bag),x.ok→(ps.foldl (fun nx p=>if a∈(onF on p.toNat).list then bun nx (β p.toNat) else nx) x).ok
 | [],x,h=>h
 | p::ps,x,h=>nextL_ok hβ ps _ (by dsimp only;split;exact bun_ok h (hβ _);exact h)
theorem nextL_in {w:Nat} (hβ:∀ q,InB 0 w (β q)):∀ (ps:List Int) (x:Bag),InB 0 w x→InB 0 w (ps.foldl (fun nx p=>if a∈(onF on p.toNat).list then bun nx (β p.toNat) else nx) x)
 | [],x,h=>h
 | p::ps,x,h=>nextL_in hβ ps _ (by dsimp only;split;exact inB_or h (hβ _);exact h)
theorem goV_drop {now:Bag} {fits:Bool} {w:List Int} {i:Nat} (h:i < w.length):goV on β ends now fits (w.drop i)=goV on β ends (nextL on β now.list (w.getD i 0)) (lastL on ends now.list (w.getD i 0)) (w.drop (i+1)):=by
 rw [drop_g h];rfl
end
theorem goes_h (wd:Nat) (on:List Bag) (β:Nat→Bag) (p:Pc) (hw:wd≤1000) (hp:p.ok) (hβ:∀ q,(β q).ok) (hβi:∀ q,InB 0 wd (β q)) (hpi:InB 0 wd p.first) (w_:List Int) (hwl:w_.length≤1000):HPure Tryz.prog 27 [ndR wd on β p,iListV w_] (boolV (goV on β p.ends p.first p.empty w_)):=by
 refine hpure_of Tryz.func27 rfl kr _ _ _ rfl 61 rfl rfl (fun w F=>?_)
 refine srg fun N h1=>?_
 refine hm_1 2 (hop_box (id:=2) (sz:=5) rfl rfl rfl (nb rfl) (nb rfl)) rfl rfl pre0 rfl rfl (c':=1) rfl ?_
 refine sa<|snl h1<|srg fun N h2=>?_
 refine sf fd_55_4 ?_
 refine sl ty_4 ?_
 refine sa<|snl h2<|srg fun N h3=>?_
 refine sf fd_55_2 ?_
 refine sl ty_25 ?_
 refine sa<|snl h3<|hw_seq fun Nh4 h4=>srg fun N h5=>sa<|snl h5<|hw_block ?_
 refine hw_loopc (α:=Nat×Bool×Bag) (fun x c=>⟨61,[(1,.v (iListV w_)),(2,.v (.pt 2 0 0 0)),(5,.v (boolV x.2.1)),(6,.v (iListV x.2.2.list)),(7,.v (intV (x.1:Int)))],[(2,⟨0,1,5,55,0,ndF (.sl 1 wd (lrF (onF on))) (.sl 1 wd (lrF β)) p⟩)],c⟩) (fun x=>x.1≤w_.length∧x.2.2.ok∧InB 0 wd x.2.2∧goV on β p.ends x.2.2 x.2.1 (w_.drop x.1)=goV on β p.ends p.first p.empty w_) (fun x=>w_.length - x.1) ((0,p.empty,p.first)) (by exact ⟨Nat.zero_le _,hp.1,hpi,rfl⟩) (hsub_of rfl (Nat.le_refl _) tsa (HpSub.cons rfl (osub_nd (.refl _) (.refl _) (.refl _) (.refl _) (.refl _)) HpSub.nil)) (fun x c hx NhL6 hL6=>?_)
 revert hx hL6;obtain ⟨i,fits,now⟩:=x;intro hx hL6;dsimp only at hx hL6 ⊢
 obtain ⟨hi,hno,hni,hg⟩:=hx
 have hnw:=list_le now
 refine hw_seq fun Nh7 h7=>srg fun N h8=>sm<|sm ?_
 refine s0 (hnl el_25) ?_
 refine s0 hli ?_
 refine snl h8 ?_
 refine wc (fun hc0=>?_) (fun hc0=>?_)
 ·have hr0:=hc0;(try simp only [hcs,Int.reduceToNat] at hc0)
  have hiw:i < w_.length:=om
  refine hw_skip<|h7 _<|hw_seq fun Nh9 h9=>hw_block<|srg fun N h10=>sa<|snl h10<|srg fun N h11=>sa<|snl h11<|hw_seq fun Nh12 h12=>srg fun N h13=>sa<|snl h13<|hw_block ?_
  refine hw_loopc (α:=Nat) (fun x c=>⟨61,[(1,.v (iListV w_)),(2,.v (.pt 2 0 0 0)),(5,.v (boolV (lastL on p.ends (now.list.take x) (w_.getD i 0)))),(6,.v (iListV now.list)),(7,.v (intV (i:Int))),(8,.v (iListV (nextL on β (now.list.take x) (w_.getD i 0)).list)),(9,.v (intV (x:Int)))],[(2,⟨0,1,5,55,0,ndF (.sl 1 wd (lrF (onF on))) (.sl 1 wd (lrF β)) p⟩)],c⟩) (fun x=>x≤now.list.length) (fun x=>now.list.length - x) (0) om (hsub_of rfl (Nat.le_refl _) (tsr rfl (tsr rfl (tsr rfl (tsr rfl (tsr rfl (TmSub.cons rfl (sb_zl) tsa)))))) hsa) (fun k c hx NhL14 hL14=>?_)
  (try dsimp only at hx hL14 ⊢)
  refine hw_seq fun Nh15 h15=>srg fun N h16=>sm<|sm ?_
  refine s0 (hnl el_25) ?_
  refine s0 hli ?_
  refine snl h16 ?_
  refine wc (fun hc1=>?_) (fun hc1=>?_)
  ·have hr1:=hc1;(try simp only [hcs,Int.reduceToNat] at hc1)
   have hkn:k < now.list.length:=om;obtain ⟨q,hq256,hqN,hq⟩:=list_lt now hkn;have hqw:=(hni q hq256 hqN).2
   refine hw_skip<|h15 _<|hw_seq fun Nh17 h17=>hw_block<|hw_seq fun Nh18 h18=>hd_start ?_
   refine df 1 fd_55_0 ?_
   refine dl 2 ty_53 ?_
   refine dm 3 ?_
   refine dm 4 ?_
   refine d0 5 (hix el_25) ?_
   refine d0 6 (HOp.val (v':=intV (q:Int)) (hop_load_fp ty_3 rfl (nb rfl) (fun h=>(by rfl))) (congrArg intV hq)) ?_
   refine d0 7 (hix el_53) ?_
   refine d0 8 (hlf ty_25) ?_
   refine dm 9 ?_
   refine dm 10 ?_
   refine d0 11 (hix el_25) ?_
   refine d0 12 (hlf ty_3) ?_
   refine d0 13 (hop_call0 (xs:=[_,_]) (has03_h (onF on q).list (list_few _) (w_.getD i 0)) ⟨rfl,⟨rfl,trivial⟩⟩ ⟨fe,⟨fe,trivial⟩⟩) ?_
   refine hd_nil kr kr (c':=c+13) rfl ?_
   refine h18 _ ?_
   refine wc (fun hc2=>?_) (fun hc2=>?_)
   ·have hr2:=hc2;(try simp only [hcs,Int.reduceToNat] at hc2)
    refine hw_seq fun Nh19 h19=>hd_start ?_
    refine dm 1 ?_
    refine dm 2 ?_
    refine hd_g 41 1 40 false _ (fun hb=>hop_fa fd_55_3 rfl) rfl rfl rfl rfl pre0 rfl rfl rfl (k':=3) rfl ?_
    refine hd_g 42 1 40 false _ (fun hb=>hol_load ty_25 rfl (nb rfl) (nb rfl) rq) rfl rfl rfl rfl (pre1 rfl) rfl rfl rfl (k':=4) rfl ?_
    refine hd_g 43 1 40 false _ (fun hb=>hop_move rfl) rfl rfl rfl rfl pre0 rfl rfl rfl (k':=5) rfl ?_
    refine hd_g 44 1 40 false _ (fun hb=>hop_move rfl) rfl rfl rfl rfl pre0 rfl rfl rfl (k':=6) rfl ?_
    refine hd_g 45 1 40 false _ (fun hb=>hop_ia_sl el_25 rfl rfl (by simp at hb;exact omx) (by simp at hb;exact omx) (nb rfl)) rfl rfl rfl rfl pre0 rfl rfl rfl (k':=7) rfl ?_
    refine hd_g 46 1 40 false _ (fun hb=>HOp.val (v':=intV (q:Int)) (hop_load_fp ty_3 rfl (nb rfl) (fun h=>(by rfl))) (congrArg intV hq)) rfl rfl rfl rfl pre0 rfl rfl rfl (k':=8) rfl ?_
    refine hd_g 47 1 40 false _ (fun hb=>hop_call0 (xs:=[_,_]) (has03_h p.ends.list (list_few _) (q:Int)) ⟨rfl,⟨rfl,trivial⟩⟩ ⟨fe,⟨fe,trivial⟩⟩) rfl rfl rfl rfl pre0 rfl rfl rfl (k':=9) rfl ?_
    refine hd_p 48 (hstep_or _ _ rfl rfl rfl) rfl rfl rfl (k':=10) rfl ?_
    refine d0 11 (hop_assign rfl) ?_
    refine hd_nilU kr kr (by rfl) (by simp only [dropUn,slots];exact rfl) (c':=c+24) rfl ?_
    refine h19 _<|hd_start ?_
    refine dm 1 ?_
    refine df 2 fd_55_1 ?_
    refine dl 3 ty_53 ?_
    refine dm 4 ?_
    refine dm 5 ?_
    refine d0 6 (hix el_25) ?_
    refine d0 7 (HOp.val (v':=intV (q:Int)) (hop_load_fp ty_3 rfl (nb rfl) (fun h=>(by rfl))) (congrArg intV hq)) ?_
    refine d0 8 (hix el_53) ?_
    refine d0 9 (hlf ty_25) ?_
    refine d0 10 (hop_call0 (xs:=[_,_]) (refOr_h (nextL on β (now.list.take k) (w_.getD i 0)) (β q)) ⟨rfl,⟨rfl,trivial⟩⟩ ⟨fe,⟨fe,trivial⟩⟩) ?_
    refine d0 11 (hop_assign rfl) ?_
    refine hd_nil kr kr (c':=c+35) rfl ?_
    refine hq_block<|h17 _<|hw_region<|sm ?_
    refine s0 hai ?_
    refine sa<|hseq_nil ?_
    exact hL14 (k+1) _ _ (by (try dsimp only);omega) (by (try dsimp only);omega) (hsub_of rfl (Nat.le_refl _) (tsr rfl (tsr rfl (TmSub.cons rfl (by rw [lastL_succ hkn hq,decide_eq_true hc2,Bool.true_and];exact .refl _) (tsr rfl (tsr rfl (TmSub.cons rfl (by rw [nextL_succ hkn hq,if_pos hc2];exact .refl _) tsa)))))) hsa)
   have hr2:=hc2;(try simp only [hcs,Int.reduceToNat] at hc2)
   refine hw_skip<|hq_block<|h17 _<|hw_region<|sm ?_
   refine s0 hai ?_
   refine sa<|hseq_nil ?_
   exact hL14 (k+1) _ _ (by (try dsimp only);omega) (by (try dsimp only);omega) (hsub_of rfl (Nat.le_refl _) (tsr rfl (tsr rfl (TmSub.cons rfl (by rw [lastL_succ hkn hq,decide_eq_false hc2,Bool.false_and,Bool.or_false];exact .refl _) (tsr rfl (tsr rfl (TmSub.cons rfl (by rw [nextL_succ hkn hq,if_neg hc2];exact .refl _) tsa)))))) hsa)
  have hr1:=hc1;(try simp only [hcs,Int.reduceToNat] at hc1)
  have hke:k=now.list.length:=om;rw [hke,List.take_length]
  refine hw_exit ?_
  refine hq_then_exit<|hq_then_exit<|hq_block_here<|h12 _<|hw_region<|sm<|sa<|hseq_nil<|hq_block<|h9 _<|hw_region<|sm ?_
  refine s0 hai ?_
  refine sa<|hseq_nil ?_
  exact hL6 ((i+1,lastL on p.ends now.list (w_.getD i 0),nextL on β now.list (w_.getD i 0))) _ _ (by (try dsimp only);exact ⟨by omega,nextL_ok hβ _ _ Bag.zero_ok,nextL_in hβi _ _ (inB_zero _ _),by rw [←goV_drop hiw];exact hg⟩) (by (try dsimp only);omega) (hsub_of rfl (Nat.le_refl _) tsa hsa)
 have hr0:=hc0;(try simp only [hcs,Int.reduceToNat] at hc0)
 refine hw_exit ?_
 refine hq_then_exit<|hq_then_exit<|hq_block_here<|h4 _<|srg fun N h20=>sm<|sa<|snl h20<|hw_ret ?_
 refine hq_ret1 rfl (rval_tmp rfl) [] rfl pre0 ?_
 have hie:i=w_.length:=om;rw [hie,List.drop_length] at hg;exact fz_bool hg
theorem has_mem (x:Bag) (s:Int):(decide (0≤s∧s < 256)&&x.has s.toNat)=decide (s∈x.list):=by
 rw [Bool.eq_iff_iff,Bool.and_eq_true,decide_eq_true_eq,decide_eq_true_eq]
 constructor
 ·rintro ⟨⟨h1,h2⟩,h3⟩
  have:=(x.mem_list s.toNat (by omega)).2 h3
  rwa [Int.toNat_of_nonneg h1] at this
 ·intro h
  have h':=h
  rw [x.list_eq] at h'
  obtain ⟨q,hq,rfl⟩:=List.mem_map.1 h'
  have:=List.mem_filter.1 hq
  exact ⟨⟨by omega,by have:=List.mem_range.1 this.1;omega⟩,by simpa using this.2⟩
theorem has_yes {x:Bag} {s:Int} (h:(0≤s∧s < 256)∧x.has s.toNat=true):s∈x.list:=by
 refine of_decide_eq_true (?_:decide (s∈x.list)=true);rw [←has_mem,decide_eq_true h.1,h.2];rfl
theorem has_no {x:Bag} {s:Int} (h:(decide (0≤s∧s < 256)&&x.has s.toNat)=false):¬ s∈x.list:=fun h2=>by
 have:=decide_eq_true h2;rw [←has_mem,h] at this;cases this
theorem and_has (x y:Bag) (k:Nat):(x.mix andF y 4).has k=(x.has k&&y.has k):=by
 unfold Bag.has
 have:∀ q,(x.mix andF y 4).word q=andF (x.word q) (y.word q):=fun q=>by
  match q with
  | 0=>rfl
  | 1=>rfl
  | 2=>rfl
  | q+3=>rfl
 rw [this]
 unfold andF
 rw [Nat.testBit_and]
def hereL (on:List Bag) (ps:List Int) (a:Int):Bag:=ps.foldl (fun h p=>if a∈(onF on p.toNat).list then h.with_ p else h) Bag.zero
section
variable {on:List Bag} {ends:Bag} {ps:List Int} {a:Int}
theorem hereL_succ {k q:Nat} (h:k < ps.length) (hq:ps.getD k 0=(q:Int)):hereL on (ps.take (k+1)) a=if a∈(onF on q).list then (hereL on (ps.take k) a).with_ (q:Int) else hereL on (ps.take k) a:=by
 unfold hereL
 rw [take_k h,hq,List.foldl_append]
 rfl
theorem here_ok:∀ (ps:List Int) (x:Bag),x.ok→(ps.foldl (fun h p=>if a∈(onF on p.toNat).list then h.with_ p else h) x).ok
 | [],x,h=>h
 | p::ps,x,h=>here_ok ps _ (by dsimp only;split;exact Bag.with_ok _ h _;exact h)
theorem here_has {q:Nat} (hq:q < 256):∀ (ps:List Int) (x:Bag),(ps.foldl (fun h p=>if a∈(onF on p.toNat).list then h.with_ p else h) x).has q=(x.has q||ps.any (fun p=>decide ((q:Int)=p)&&decide (a∈(onF on p.toNat).list)))
  | [],x=>(Bool.or_false _).symm
  | p :: ps, x => by
    rw [List.foldl_cons,here_has hq ps,List.any_cons]
    by_cases h:a∈(onF on p.toNat).list
    · rw [if_pos h,Bag.with_has _ _ _ hq,decide_eq_true h,Bool.and_true,Bool.or_comm (decide _) (x.has q),Bool.or_assoc]
    · rw [if_neg h,decide_eq_false h,Bool.and_false,Bool.false_or]
theorem last_here (hps:∀ p∈ps,0≤p∧p < 256) (he:ends.ok):(!decide ((hereL on ps a).mix andF ends 4=Bag.zero))=lastL on ends ps a:=by
  have hok:(hereL on ps a).ok:=here_ok ps _ Bag.zero_ok
  rw [Bool.eq_iff_iff,Bool.not_eq_true',decide_eq_false_iff_not]
  unfold lastL
  rw [List.any_eq_true]
  constructor
  · intro h
    refine Classical.byContradiction fun h2=>h ?_
    refine Bag.ext_has _ _ (andW_ok _ _ hok he) Bag.zero_ok (fun q hq=>?_)
    rw [and_has,Bag.zero_has]
    cases h3:(hereL on ps a).has q with
    | false=>rfl
    | true =>
      cases h4:ends.has q with
      | false=>rfl
      | true =>
        unfold hereL at h3
        rw [here_has hq,Bag.zero_has,Bool.false_or,List.any_eq_true] at h3
        obtain ⟨p,hp,h5⟩:=h3
        rw [Bool.and_eq_true,decide_eq_true_eq,decide_eq_true_eq] at h5
        exact absurd ⟨p,hp,by rw [decide_eq_true h5.2,←h5.1,decide_eq_true ((ends.mem_list q hq).2 h4)];rfl⟩ h2
  · rintro ⟨p,hp,h5⟩ h
    rw [Bool.and_eq_true,decide_eq_true_eq,decide_eq_true_eq] at h5
    obtain ⟨h6,h7⟩:=hps p hp
    have e:((p.toNat:Nat):Int)=p:=Int.toNat_of_nonneg h6
    have h8:p.toNat < 256:=by omega
    have h9:ends.has p.toNat=true:=(ends.mem_list _ h8).1 (by rw [e];exact h5.2)
    have h10:(hereL on ps a).has p.toNat=true:=by
      unfold hereL
      rw [here_has h8,Bag.zero_has,Bool.false_or,List.any_eq_true]
      exact ⟨p,hp,by rw [e,decide_eq_true rfl,decide_eq_true h5.1];rfl⟩
    have h11:((hereL on ps a).mix andF ends 4).has p.toNat=Bag.zero.has p.toNat:=by rw [h]
    rw [and_has,h9,h10,Bag.zero_has] at h11
    cases h11
end
theorem list_in (x:Bag):∀ p∈x.list,0≤p∧p < 256:=fun p hp=>by
 rw [x.list_eq] at hp
 obtain ⟨q,hq,rfl⟩:=List.mem_map.1 hp
 have:=List.mem_range.1 (List.mem_filter.1 hq).1
 omega
theorem goV_any {on:List Bag} {β:Nat→Bag} {ends now:Bag} {f f':Bool}:∀ {w:List Int},w≠[]→goV on β ends now f w=goV on β ends now f' w
 | [],h=>absurd rfl h
 | a::w,_=>rfl
theorem osub_bag {g:Nat} {f:Nat→Nat→HV} {x:Bag} (h:∀ j,j < 4→f 0 j=bagF x j):OSub ⟨g,1,4,33,0,f⟩ ⟨g,1,4,33,0,fun _=>bagF x⟩:=OSub.of fun i j hi hj=>by
 obtain rfl:i=0:=by omega
 rw [h j hj];exact .refl _
@[reducible] def bgO (g:Nat) (x:Bag):HObj:=⟨g,1,4,33,0,fun _=>bagF x⟩
theorem nfits_h (wd:Nat) (on:List Bag) (β:Nat→Bag) (p:Pc) (hw:wd≤256) (hon:∀ q,(onF on q).ok) (hp:p.ok) (hβ:∀ q,(β q).ok) (hβi:∀ q,InB 0 wd (β q)) (hpi:InB 0 wd p.first) (w_:List Int) (hwl:w_.length≤1000):HPure Tryz.prog 24 [netP wd on β p,iListV w_] (boolV (goV on β p.ends p.first p.empty w_)):=by
 refine hpure_ofM Tryz.func24 rfl kr _ _ _ rfl 70 rfl rfl (fun w F=>?_)
 refine srg fun N h1=>?_
 refine hm_1 2 (hop_box (id:=2) (sz:=1) rfl rfl rfl (nb rfl) (nb rfl)) rfl rfl pre0 rfl rfl (c':=1) rfl ?_
 refine sa<|snl h1<|hw_seq fun Nh2 h2=>srg fun N h3=>?_
 refine sl ty_36 ?_
 refine s0 (hop_eql_fp rfl rfl rfl) ?_
 refine snl h3 ?_
 refine wc (fun hc0=>?_) (fun hc0=>?_)
 ·have hr0:=hc0;(try simp only [hcs,Int.reduceToNat] at hc0)
  exfalso;simp at hr0
 have hr0:=hc0;(try simp only [hcs,Int.reduceToNat] at hc0)
 refine hw_skip<|h2 _<|hw_seq fun Nh4 h4=>srg fun N h5=>sm ?_
 refine s0 (hnl el_25) ?_
 refine s0 hqi ?_
 refine snl h5 ?_
 refine wc (fun hc1=>?_) (fun hc1=>?_)
 ·have hr1:=hc1;(try simp only [hcs,Int.reduceToNat] at hc1)
  refine srg fun N h6=>?_
  refine sl ty_36 ?_
  refine s0 (hop_nilcheck_fp rfl) ?_
  refine s0 (hop_fa_fp fd_71_4 rfl (nb rfl)) ?_
  refine s0 (hlf ty_4) ?_
  refine sa<|snl h6<|hw_ret<|hq_then_ret ?_
  refine hq_retP ?_
  refine hq_ret1 rfl (rval_tmp rfl) [] rfl pre0 ?_
  obtain rfl:w_=[]:=(by apply List.length_eq_zero_iff.1;omega);exact .imm _
 have hr1:=hc1;(try simp only [hcs,Int.reduceToNat] at hc1)
 refine hw_skip<|h4 _<|srg fun N h7=>?_
 refine sl ty_36 ?_
 refine s0 (hop_nilcheck_fp rfl) ?_
 refine s0 (hop_fa_fp fd_71_2 rfl (nb rfl)) ?_
 refine s0 (hop_load_fp ty_33 rfl (nb rfl) (fun h=>(by cases h))) ?_
 refine hm_1 5 (hop_alloc (id:=5) (sz:=4) zc_33 rfl rfl (nb rfl) (nb rfl)) rfl rfl pre0 rfl rfl (c':=2) rfl ?_
 refine sw (3) ty_33 ?_
 refine snl h7<|hw_seq fun Nh8 h8=>srg fun N h9=>sm ?_
 refine s0 (hnl el_25) ?_
 refine sm<|snl h9<|hw_block ?_
 refine hw_loopc (α:=Nat×Bag) (fun x c=>⟨70,[(1,.v (iListV w_)),(2,.v (.pt 2 0 0 0)),(5,.v (.pt 5 1 0 0)),(24,.v (iListV w_)),(25,.v (intV (w_.length:Int))),(26,.v (intV (x.1:Int)))],[(2,⟨0,1,1,36,0,fun _ _=>netP wd on β p⟩),(5,bgO 1 x.2)],c⟩) (fun x=>x.1 < w_.length∧x.2.ok∧InB 0 wd x.2∧goV on β p.ends x.2 p.empty (w_.drop x.1)=goV on β p.ends p.first p.empty w_) (fun x=>w_.length - x.1) ((0,p.first)) (by exact ⟨by omega,hp.1,hpi,rfl⟩) (hsub_of rfl (Nat.le_refl _) tsa (hsr rfl (HpSub.cons rfl (osub_bag (by exact j4 rfl rfl rfl rfl)) HpSub.nil))) (fun x c hx NhL10 hL10=>?_)
 revert hx hL10;obtain ⟨i,now⟩:=x;intro hx hL10;dsimp only at hx hL10 ⊢
 obtain ⟨hi,hno,hni,hg⟩:=hx
 have hnw:=list_le now;let k7:=c
 refine srg fun N h11=>?_
 refine s0 hli ?_
 refine snl h11<|hw_seq fun Nh12 h12=>?_
 refine wc (fun hc2=>?_) (fun hc2=>?_)
 ·have hr2:=hc2;(try simp only [hcs,Int.reduceToNat] at hc2)
  refine hw_skip<|h12 _<|hw_seq fun Nh13 h13=>hw_block<|srg fun N h14=>sm ?_
  refine s0 (hix el_25) ?_
  refine s0 (hlf ty_3) ?_
  refine hm_1 7 (hop_alloc (id:=7) (sz:=1) zc_3 rfl rfl (nb rfl) (nb rfl)) rfl rfl pre0 rfl rfl (c':=c+1) rfl ?_
  refine sa ?_
  refine sw (c+2) ty_3 ?_
  refine snl h14<|srg fun N h15=>?_
  refine hm_1 8 (hop_alloc (id:=8) (sz:=4) zc_33 rfl rfl (nb rfl) (nb rfl)) rfl rfl pre0 rfl rfl (c':=c+3) rfl ?_
  refine hm_1 9 (hop_alloc (id:=9) (sz:=4) zc_33 rfl rfl (nb rfl) (nb rfl)) rfl rfl pre0 rfl rfl (c':=c+4) rfl ?_
  refine snl h15<|hw_seq fun Nh16 h16=>srg fun N h17=>?_
  refine sl ty_33 ?_
  refine s0 (hop_call0 (xs:=[_]) (all_h now) ⟨rfl,trivial⟩ ⟨fe,trivial⟩) ?_
  refine snl h17<|hw_block ?_
  refine hw_range (α:=Nat) ⟨rfl,rfl,rfl⟩ (all_it now hno) rfl (cs:=[_]) rfl (fun i hi=>by first | rfl | (cases i <;> first | rfl | (simp at hi))) ⟨(Fz.eq rfl),trivial⟩ rfl (fun _=>rfl) rfl (fun x=>[(2,⟨0,1,1,36,0,fun _ _=>netP wd on β p⟩),(5,bgO 1 now),(7,⟨k7,1,1,3,0,fun _ _=>intV (w_.getD i 0)⟩),(8,bgO (k7+2) (hereL on (now.list.take x) (w_.getD i 0))),(9,bgO (k7+3) (nextL on β (now.list.take x) (w_.getD i 0)))]) (fun x=>x) (fun x=>x≤now.list.length) (0) om (by first | rfl | omega) (hsr rfl (hsr rfl (hsr rfl (HpSub.cons rfl (osub_bag (by exact j4 rfl rfl rfl rfl)) (HpSub.cons rfl (osub_bag (by exact j4 rfl rfl rfl rfl)) HpSub.nil))))) rfl (fun k c hx hi C1 lr hC1 NhR18 hR18=>?_) (fun k c hx hi=>?_)
  ·skip
   (try dsimp only at hx hi hR18 ⊢)
   obtain ⟨q,hq256,hqN,hq⟩:=list_lt now hi;have hqw:=(hni q hq256 hqN).2;rw [hq];have hko:=nextL_ok (a:=w_.getD i 0) (on:=on) hβ (now.list.take k) Bag.zero Bag.zero_ok;have hho:=here_ok (a:=w_.getD i 0) (on:=on) (now.list.take k) Bag.zero Bag.zero_ok
   refine hw_region<|sa<|hseq_nil ?_
   refine hR18 _ (fun C2 hC19=>?_)
   refine hw_block<|hw_seq fun Nh20 h20=>hd_start ?_
   refine dl 1 ty_36 ?_
   refine d0 2 (hop_nilcheck_fp rfl) ?_
   refine d0 3 (hop_fa_fp fd_71_0 rfl (nb rfl)) ?_
   refine d0 4 (hlf ty_69) ?_
   refine dm 5 ?_
   refine d0 6 (hix el_69) ?_
   refine d0 7 (hop_load_fp ty_33 rfl (nb rfl) (fun h=>(by cases h))) ?_
   refine dl 8 ty_3 ?_
   refine d0 9 (hop_call0 (xs:=[_,_]) (has_h (onF on q) (hon q) (w_.getD i 0)) ⟨rfl,⟨rfl,trivial⟩⟩ ⟨fe,⟨fe,trivial⟩⟩) ?_
   refine hd_nil kr kr (c':=c+9) rfl ?_
   refine h20 _ ?_
   refine wc (fun hc3=>?_) (fun hc3=>?_)
   ·have hr3:=hc3;(try simp only [hcs,Int.reduceToNat] at hc3)
    refine srg fun N h21=>?_
    refine sl ty_33 ?_
    refine sm ?_
    refine s0 (hop_call0 (xs:=[_,_]) (with_h (hereL on (now.list.take k) (w_.getD i 0)) hho (q:Int)) ⟨rfl,⟨rfl,trivial⟩⟩ ⟨fe,⟨fe,trivial⟩⟩) ?_
    refine sw (c+10) ty_33 ?_
    refine snl h21<|hd_start ?_
    refine dl 1 ty_33 ?_
    refine dl 2 ty_36 ?_
    refine d0 3 (hop_nilcheck_fp rfl) ?_
    refine d0 4 (hop_fa_fp fd_71_1 rfl (nb rfl)) ?_
    refine d0 5 (hlf ty_69) ?_
    refine dm 6 ?_
    refine d0 7 (hix el_69) ?_
    refine d0 8 (hop_load_fp ty_33 rfl (nb rfl) (fun h=>(by cases h))) ?_
    refine d0 9 (hop_call0 (xs:=[_,_]) (or_h (nextL on β (now.list.take k) (w_.getD i 0)) (β q) hko (hβ q)) ⟨rfl,⟨rfl,trivial⟩⟩ ⟨fe,⟨fe,trivial⟩⟩) ?_
    refine hd_s1 (hol_storeW ty_33 rfl rfl rfl rfl) rfl rfl (pre1 rfl) (k':=10) rfl ?_
    refine hd_nil kr kr (c':=c+20) rfl ?_
    refine hq_block ?_
    exact rq_normal ⟨k+1,by (try dsimp only);omega,by first | rfl | omega,(hsr rfl (hsr rfl (hsr rfl (HpSub.cons rfl (osub_bag (by rw [hereL_succ hi hq,if_pos (has_yes hc3)];exact j4 rfl rfl rfl rfl)) (HpSub.cons rfl (osub_bag (by rw [nextL_succ hi hq,if_pos (has_yes hc3)];exact j4 rfl rfl rfl rfl)) HpSub.nil)))))⟩
   have hr3:=hc3;(try simp only [hcs,Int.reduceToNat] at hc3)
   refine hw_skip<|hq_block ?_
   exact rq_normal ⟨k+1,by (try dsimp only);omega,by first | rfl | omega,(hsr rfl (hsr rfl (hsr rfl (HpSub.cons rfl (osub_bag (by rw [hereL_succ hi hq,if_neg (has_no hc3)];exact j4 rfl rfl rfl rfl)) (HpSub.cons rfl (osub_bag (by rw [nextL_succ hi hq,if_neg (has_no hc3)];exact j4 rfl rfl rfl rfl)) HpSub.nil)))))⟩
  ·skip
   (try dsimp only at hx hi ⊢)
   have hko:=nextL_ok (a:=w_.getD i 0) (on:=on) hβ now.list Bag.zero Bag.zero_ok;have hho:=here_ok (a:=w_.getD i 0) (on:=on) now.list Bag.zero Bag.zero_ok;rw [hi,List.take_length]
   refine hq_block<|h16 _<|hw_seq fun Nh22 h22=>srg fun N h23=>sm<|sm ?_
   refine s0 (hnl el_25) ?_
   refine s0 hsi ?_
   refine s0 hqi ?_
   refine snl h23 ?_
   refine wc (fun hc4=>?_) (fun hc4=>?_)
   ·have hr4:=hc4;(try simp only [hcs,Int.reduceToNat] at hc4)
    refine hw_seq fun Nh24 h24=>hd_start ?_
    refine dl 1 ty_33 ?_
    refine dl 2 ty_36 ?_
    refine d0 3 (hop_nilcheck_fp rfl) ?_
    refine d0 4 (hop_fa_fp fd_71_3 rfl (nb rfl)) ?_
    refine d0 5 (hop_load_fp ty_33 rfl (nb rfl) (fun h=>(by cases h))) ?_
    refine d0 6 (hop_call0 (xs:=[_,_]) (and_h (hereL on now.list (w_.getD i 0)) p.ends hho hp.2) ⟨rfl,⟨rfl,trivial⟩⟩ ⟨(Fz.eq rfl),⟨(fz_bg (by exact j4 rfl rfl rfl rfl)),trivial⟩⟩) ?_
    refine d0 7 (hop_build (hs:=[]) st_33 rfl rfl trivial) ?_
    refine d0 8 (hop_neq_bag ((hereL on now.list (w_.getD i 0)).mix andF p.ends 4) Bag.zero rfl rfl rfl (by exact j4 rfl rfl rfl rfl) (by exact j4 rfl rfl rfl rfl)) ?_
    refine d0 9 (hop_assign rfl) ?_
    refine hd_nil kr kr (c':=c+9) rfl ?_
    refine h24 _<|hw_ret<|hq_then_ret<|hq_block_ret<|hq_then_ret<|hq_then_ret<|hq_block_ret<|hq_then_ret ?_
    refine hq_retP ?_
    refine hq_ret1 rfl (rval_tmp rfl) [] rfl pre0 ?_
    exact fz_bool (by rw [last_here (list_in now) hp.2,←hg,goV_drop om,List.drop_of_length_le om];rfl)
   have hr4:=hc4;(try simp only [hcs,Int.reduceToNat] at hc4)
   refine hw_skip<|h22 _<|hw_region ?_
   refine sl ty_33 ?_
   refine sw (c+1) ty_33 ?_
   refine hseq_nil<|hq_block<|h13 _<|hw_region ?_
   refine s0 hai ?_
   refine sm<|hseq_nil ?_
   exact hL10 ((i+1,nextL on β now.list (w_.getD i 0))) _ _ (by (try dsimp only);exact ⟨by omega,hko,nextL_in hβi _ _ (inB_zero _ _),(goV_any (w:=w_.drop (i+1)) (fun h=>by have:=congrArg List.length h;rw [List.length_drop,List.length_nil] at this;omega)).trans ((goV_drop om).symm.trans hg)⟩) (by (try dsimp only);omega) (hsub_of rfl (Nat.le_refl _) tsa (hsr rfl (HpSub.cons rfl (osub_bag (by exact j4 rfl rfl rfl rfl)) HpSub.nil)))
 have hr2:=hc2;(try simp only [hcs,Int.reduceToNat] at hc2)
 exfalso;omega
end Go.Proofs.YtldjnmljnlhaaaaGreatDoor
namespace Go.Proofs.YtldjnmljnlhaaaaGreatDoor
set_option linter.unusedSimpArgs false
set_option linter.unusedVariables false
set_option linter.unusedSectionVars false
set_option maxRecDepth 10000
structure Mc where
 F:Nat→Nat→Prop
 I:Nat→Prop
 E:Nat→Prop
 e:Prop
theorem mc_ext {A B:Mc} (h1:∀ p q,A.F p q↔B.F p q) (h2:∀ p,A.I p↔B.I p) (h3:∀ p,A.E p↔B.E p) (h4:A.e↔B.e):A=B:=by
 cases A;cases B
 have e1:=funext fun p=>funext fun q=>propext (h1 p q)
 have e2:=funext fun p=>propext (h2 p)
 have e3:=funext fun p=>propext (h3 p)
 have e4:=propext h4
 dsimp only at e1 e2 e3 e4
 subst e1;subst e2;subst e3;subst e4;rfl
structure Mc.In (N M:Nat) (A:Mc):Prop where
 F:∀ {p q},A.F p q→(N≤p∧p < M)∧N≤q∧q < M
 I:∀ {p},A.I p→N≤p∧p < M
 E:∀ {p},A.E p→N≤p∧p < M
theorem Mc.In.mono {N M N' M':Nat} {A:Mc} (h:A.In N M) (h1:N'≤N) (h2:M≤M'):A.In N' M' :=
 ⟨fun k=>by have:=h.F k;omega,fun k=>by have:=h.I k;omega,fun k=>by have:=h.E k;omega⟩
def Mc.alt (A B:Mc):Mc:=⟨fun p q=>A.F p q∨B.F p q,fun p=>A.I p∨B.I p,fun p=>A.E p∨B.E p,A.e∨B.e⟩
def Mc.cat (A B:Mc):Mc:=⟨fun p q=>A.F p q∨B.F p q∨(A.E p∧B.I q),fun p=>A.I p∨(A.e∧B.I p),fun p=>B.E p∨(B.e∧A.E p),A.e∧B.e⟩
def Mc.plus (A:Mc):Mc:=⟨fun p q=>A.F p q∨(A.E p∧A.I q),A.I,A.E,A.e⟩
def Mc.opt (A:Mc):Mc:=⟨A.F,A.I,A.E,True⟩
def Mc.unit:Mc:=⟨fun _ _=>False,fun _=>False,fun _=>False,True⟩
def Mc.void:Mc:=⟨fun _ _=>False,fun _=>False,fun _=>False,False⟩
section
variable {N M K:Nat} {A B:Mc}
theorem unit_in:Mc.unit.In N M:=⟨fun h=>h.elim,fun h=>h.elim,fun h=>h.elim⟩
theorem void_in:Mc.void.In N M:=⟨fun h=>h.elim,fun h=>h.elim,fun h=>h.elim⟩
theorem opt_in (hA:A.In N M):A.opt.In N M:=⟨hA.F,hA.I,hA.E⟩
theorem plus_in (hA:A.In N M):A.plus.In N M :=
 ⟨fun h=>h.elim (fun h=>hA.F h) (fun h=>⟨hA.E h.1,hA.I h.2⟩),hA.I,hA.E⟩
theorem alt_in (hA:A.In N M) (hB:B.In N M):(A.alt B).In N M :=
 ⟨fun h=>h.elim (fun h=>hA.F h) (fun h=>hB.F h),fun h=>h.elim (fun h=>hA.I h) (fun h=>hB.I h),fun h=>h.elim (fun h=>hA.E h) (fun h=>hB.E h)⟩
theorem cat_in (hA:A.In N M) (hB:B.In N M):(A.cat B).In N M :=
 ⟨fun h=>h.elim (fun h=>hA.F h) (fun h=>h.elim (fun h=>hB.F h) (fun h=>⟨hA.E h.1,hB.I h.2⟩)),fun h=>h.elim (fun h=>hA.I h) (fun h=>hB.I h.2),fun h=>h.elim (fun h=>hB.E h) (fun h=>hA.E h.2)⟩
variable (σ:Nat→Int→Prop)
def McRun (A:Mc):List Int→Nat→Prop
 | [],_=>False
 | a::w,p=>σ p a∧((w=[]∧A.E p)∨∃ q,A.F p q∧McRun A w q)
def Mc.L (A:Mc) (w:List Int):Prop:=(w=[]∧A.e)∨∃ p,A.I p∧McRun σ A w p
theorem mcRun_same {A B:Mc} (P:Nat→Prop) (hF:∀ p q,P p→(A.F p q↔B.F p q)) (hE:∀ p,P p→(A.E p↔B.E p)) (hP:∀ p q,P p→A.F p q→P q):∀ w p,P p→(McRun σ A w p↔McRun σ B w p)
  | [],_,_=>Iff.rfl
  | a :: w, p, h => by
    simp only [McRun]
    refine and_congr_right fun _=>or_congr (and_congr_right fun _=>hE p h) (exists_congr fun q=>?_)
    constructor
    · rintro ⟨h1,h2⟩;exact ⟨(hF p q h).1 h1,(mcRun_same P hF hE hP w q (hP p q h h1)).1 h2⟩
    · rintro ⟨h1,h2⟩;have h3:=(hF p q h).2 h1;exact ⟨h3,(mcRun_same P hF hE hP w q (hP p q h h3)).2 h2⟩
theorem alt_left (hA:A.In N M) (hB:B.In M K) (w:List Int) (p:Nat) (h:p < M):McRun σ (A.alt B) w p↔McRun σ A w p :=
 mcRun_same σ (A:=A.alt B) (B:=A) (fun p=>p < M) (fun p q hp=>⟨fun h=>h.resolve_right fun h2=>by have:=(hB.F h2).1;omega,.inl⟩) (fun p hp=>⟨fun h=>h.resolve_right fun h2=>by have:=hB.E h2;omega,.inl⟩) (fun p q hp h=>by
  rcases h with h | h
  ·exact (hA.F h).2.2
  ·have:=(hB.F h).1;omega) w p h
theorem alt_right (hA:A.In N M) (hB:B.In M K) (w:List Int) (p:Nat) (h:M≤p):McRun σ (A.alt B) w p↔McRun σ B w p :=
 mcRun_same σ (A:=A.alt B) (B:=B) (fun p=>M≤p) (fun p q hp=>⟨fun h=>h.resolve_left fun h2=>by have:=(hA.F h2).1;omega,.inr⟩) (fun p hp=>⟨fun h=>h.resolve_left fun h2=>by have:=hA.E h2;omega,.inr⟩) (fun p q hp h=>by
  rcases h with h | h
  ·have:=(hA.F h).1;omega
  ·exact (hB.F h).2.1) w p h
theorem alt_L (hA:A.In N M) (hB:B.In M K) (w:List Int):(A.alt B).L σ w↔A.L σ w∨B.L σ w:=by
 constructor
 ·rintro (⟨rfl,h | h⟩ | ⟨p,h | h,h2⟩)
  ·exact .inl (.inl ⟨rfl,h⟩)
  ·exact .inr (.inl ⟨rfl,h⟩)
  ·exact .inl (.inr ⟨p,h,(alt_left σ hA hB w p (hA.I h).2).1 h2⟩)
  ·exact .inr (.inr ⟨p,h,(alt_right σ hA hB w p (hB.I h).1).1 h2⟩)
 ·rintro ((⟨rfl,h⟩ | ⟨p,h,h2⟩) | (⟨rfl,h⟩ | ⟨p,h,h2⟩))
  ·exact .inl ⟨rfl,.inl h⟩
  ·exact .inr ⟨p,.inl h,(alt_left σ hA hB w p (hA.I h).2).2 h2⟩
  ·exact .inl ⟨rfl,.inr h⟩
  ·exact .inr ⟨p,.inr h,(alt_right σ hA hB w p (hB.I h).1).2 h2⟩
theorem cat_right (hA:A.In N M) (hB:B.In M K) (w:List Int) (p:Nat) (h:M≤p):McRun σ (A.cat B) w p↔McRun σ B w p :=
 mcRun_same σ (A:=A.cat B) (B:=B) (fun p=>M≤p) (fun p q hp=>⟨fun h=>by
   rcases h with h | h | h
   ·have:=(hA.F h).1;omega
   ·exact h
   ·have:=hA.E h.1;omega,fun h=>.inr (.inl h)⟩) (fun p hp=>⟨fun h=>h.resolve_right fun h2=>by have:=hA.E h2.2;omega,.inl⟩) (fun p q hp h=>by
  rcases h with h | h | h
  ·have:=(hA.F h).1;omega
  ·exact (hB.F h).2.1
  ·have:=hA.E h.1;omega) w p h
theorem cat_left (hA:A.In N M) (hB:B.In M K):∀ w p,p < M→(McRun σ (A.cat B) w p↔∃ u v,w=u++v∧McRun σ A u p∧B.L σ v)
  | [], p, h => by
    constructor
    · exact fun h=>h.elim
    · rintro ⟨u,v,e,h1,h2⟩
      cases u with
      | nil=>exact h1
      | cons a u=>cases e
  | a :: w, p, h => by
    constructor
    · rintro ⟨hs,h1⟩
      rcases h1 with ⟨rfl,h1⟩ | ⟨q,h1,h2⟩
      · rcases h1 with h1 | ⟨h1,h3⟩
        · have:=hB.E h1;omega
        · exact ⟨[a],[],rfl,⟨hs,.inl ⟨rfl,h3⟩⟩,.inl ⟨rfl,h1⟩⟩
      · rcases h1 with h1 | h1 | ⟨h1,h3⟩
        · obtain ⟨u,v,e,h4,h5⟩:=(cat_left hA hB w q (hA.F h1).2.2).1 h2
          exact ⟨a::u,v,by rw [e];rfl,⟨hs,.inr ⟨q,h1,h4⟩⟩,h5⟩
        · have:=(hB.F h1).1;omega
        · exact ⟨[a],w,rfl,⟨hs,.inl ⟨rfl,h1⟩⟩,.inr ⟨q,h3,(cat_right σ hA hB w q (hB.I h3).1).1 h2⟩⟩
    · rintro ⟨u,v,e,h1,h2⟩
      cases u with
      | nil=>exact h1.elim
      | cons b u =>
        obtain ⟨rfl,rfl⟩:=List.cons.inj e
        obtain ⟨hs,h3⟩:=h1
        refine ⟨hs,?_⟩
        rcases h3 with ⟨rfl,h3⟩ | ⟨q,h3,h4⟩
        · rcases h2 with ⟨rfl,h2⟩ | ⟨q,h2,h4⟩
          · exact .inl ⟨rfl,.inr ⟨h2,h3⟩⟩
          · exact .inr ⟨q,.inr (.inr ⟨h3,h2⟩),(cat_right σ hA hB _ q (hB.I h2).1).2 h4⟩
        · exact .inr ⟨q,.inl h3,(cat_left hA hB _ q (hA.F h3).2.2).2 ⟨u,v,rfl,h4,h2⟩⟩
theorem cat_L (hA:A.In N M) (hB:B.In M K) (w:List Int):(A.cat B).L σ w↔LCat (A.L σ) (B.L σ) w:=by
 constructor
 ·rintro (⟨rfl,h1,h2⟩ | ⟨p,h | ⟨h,h3⟩,h2⟩)
  ·exact ⟨[],[],rfl,.inl ⟨rfl,h1⟩,.inl ⟨rfl,h2⟩⟩
  ·obtain ⟨u,v,e,h4,h5⟩:=(cat_left σ hA hB w p (hA.I h).2).1 h2
   exact ⟨u,v,e,.inr ⟨p,h,h4⟩,h5⟩
  ·exact ⟨[],w,rfl,.inl ⟨rfl,h⟩,.inr ⟨p,h3,(cat_right σ hA hB w p (hB.I h3).1).1 h2⟩⟩
 ·rintro ⟨u,v,rfl,⟨rfl,h1⟩ | ⟨p,h1,h2⟩,h3⟩
  ·rcases h3 with ⟨rfl,h3⟩ | ⟨q,h3,h4⟩
   ·exact .inl ⟨rfl,h1,h3⟩
   ·exact .inr ⟨q,.inr ⟨h1,h3⟩,(cat_right σ hA hB _ q (hB.I h3).1).2 h4⟩
  ·exact .inr ⟨p,.inl h1,(cat_left σ hA hB _ p (hA.I h1).2).2 ⟨u,v,rfl,h2,h3⟩⟩
end
def LStar (L:List Int→Prop) (w:List Int):Prop:=∃ j,LPow L j w
theorem lpow_front {L:List Int→Prop}:∀ {k:Nat} {w:List Int},LPow L (k+1) w↔LCat L (LPow L k) w
  | 0, w => by
    constructor
    · rintro ⟨u,v,e,h1,h2⟩
      have h3:u=[]:=h1
      subst h3
      exact ⟨v,[],by rw [e];simp,h2,rfl⟩
    · rintro ⟨u,v,e,h1,h2⟩
      have h3:v=[]:=h2
      subst h3
      exact ⟨[],u,by rw [e];simp,rfl,h1⟩
  | k + 1, w => by
    constructor
    · rintro ⟨u,v,rfl,h1,h2⟩
      obtain ⟨u1,u2,rfl,h3,h4⟩:=lpow_front.1 h1
      exact ⟨u1,u2++v,List.append_assoc ..,h3,u2,v,rfl,h4,h2⟩
    · rintro ⟨u,v,rfl,h1,v1,v2,rfl,h2,h3⟩
      exact ⟨u++v1,v2,(List.append_assoc ..).symm,lpow_front.2 ⟨u,v1,rfl,h1,h2⟩,h3⟩
theorem lpow_add {L:List Int→Prop} (a:Nat):∀ {b:Nat} {w:List Int},LPow L (a+b) w↔LCat (LPow L a) (LPow L b) w
  | 0, w => by
    constructor
    · exact fun h=>⟨w,[],by simp,h,rfl⟩
    · rintro ⟨u,v,e,h1,h2⟩
      have h3:v=[]:=h2
      subst h3
      rw [e,List.append_nil];exact h1
  | b + 1, w => by
    constructor
    · rintro ⟨u,v,rfl,h1,h2⟩
      obtain ⟨u1,u2,rfl,h3,h4⟩:=(lpow_add a).1 h1
      exact ⟨u1,u2++v,List.append_assoc ..,h3,u2,v,rfl,h4,h2⟩
    · rintro ⟨u,v,rfl,h1,v1,v2,rfl,h2,h3⟩
      exact ⟨u++v1,v2,(List.append_assoc ..).symm,(lpow_add a).2 ⟨u,v1,rfl,h1,h2⟩,h3⟩
theorem lstar_front {L:List Int→Prop} {u v:List Int} (h1:L u):LStar L v→LStar L (u++v)
 | ⟨j,h⟩=>⟨j+1,lpow_front.2 ⟨u,v,rfl,h1,h⟩⟩
theorem lstar_cases {L:List Int→Prop}:∀ {j:Nat} {w:List Int},LPow L j w→w=[]∨∃ u v,w=u++v∧u≠[]∧L u∧LStar L v
  | 0,w,h=>.inl h
  | j + 1, w, h => by
    obtain ⟨u,v,rfl,h1,h2⟩:=lpow_front.1 h
    cases u with
    | nil=>exact lstar_cases h2
    | cons a u=>exact .inr ⟨a::u,v,rfl,List.cons_ne_nil _ _,h1,j,h2⟩
theorem lcat_congr {L L' K K':List Int→Prop} (h1:∀ w,L w↔L' w) (h2:∀ w,K w↔K' w) (w:List Int):LCat L K w↔LCat L' K' w:=by
 have e1:L=L':=funext fun w=>propext (h1 w)
 have e2:K=K':=funext fun w=>propext (h2 w)
 rw [e1,e2]
section
variable (σ:Nat→Int→Prop) {A:Mc}
theorem opt_L (w:List Int):A.opt.L σ w↔w=[]∨A.L σ w:=by
 have hr:∀ p,McRun σ A.opt w p↔McRun σ A w p:=fun p=>mcRun_same σ (A:=A.opt) (B:=A) (fun _=>True) (fun _ _ _=>Iff.rfl) (fun _ _=>Iff.rfl) (fun _ _ _ _=>trivial) w p trivial
 constructor
 ·rintro (⟨h,_⟩ | ⟨p,h1,h2⟩)
  ·exact .inl h
  ·exact .inr (.inr ⟨p,h1,(hr p).1 h2⟩)
 ·rintro (h | ⟨h,_⟩ | ⟨p,h1,h2⟩)
  ·exact .inl ⟨h,trivial⟩
  ·exact .inl ⟨h,trivial⟩
  ·exact .inr ⟨p,h1,(hr p).2 h2⟩
theorem unit_L (w:List Int):Mc.unit.L σ w↔w=[]:=⟨fun h=>h.elim (fun h=>h.1) (fun ⟨_,h,_⟩=>h.elim),fun h=>.inl ⟨h,trivial⟩⟩
theorem void_L (w:List Int):Mc.void.L σ w↔False:=⟨fun h=>h.elim (fun h=>h.2) (fun ⟨_,h,_⟩=>h),fun h=>h.elim⟩
theorem plus_run:∀ w p,McRun σ A.plus w p↔∃ u v,w=u++v∧McRun σ A u p∧LStar (A.L σ) v
  | [], p => by
    constructor
    · exact fun h=>h.elim
    · rintro ⟨u,v,e,h1,h2⟩
      cases u with
      | nil=>exact h1
      | cons a u=>cases e
  | a :: w, p => by
    constructor
    · rintro ⟨hs,⟨rfl,h1⟩ | ⟨q,h1 | ⟨h1,h3⟩,h2⟩⟩
      · exact ⟨[a],[],rfl,⟨hs,.inl ⟨rfl,h1⟩⟩,0,rfl⟩
      · obtain ⟨u,v,e,h4,h5⟩:=(plus_run w q).1 h2
        exact ⟨a::u,v,by rw [e];rfl,⟨hs,.inr ⟨q,h1,h4⟩⟩,h5⟩
      · obtain ⟨u,v,e,h4,h5⟩:=(plus_run w q).1 h2
        exact ⟨[a],w,rfl,⟨hs,.inl ⟨rfl,h1⟩⟩,by rw [e];exact lstar_front (.inr ⟨q,h3,h4⟩) h5⟩
    · rintro ⟨u,v,e,h1,h2⟩
      cases u with
      | nil=>exact h1.elim
      | cons b u =>
        obtain ⟨rfl,rfl⟩:=List.cons.inj e
        obtain ⟨hs,h3⟩:=h1
        refine ⟨hs,?_⟩
        rcases h3 with ⟨rfl,h3⟩ | ⟨q,h3,h4⟩
        · obtain ⟨j,hj⟩:=h2
          rcases lstar_cases hj with rfl | ⟨u1,v1,rfl,h4,h5,h6⟩
          · exact .inl ⟨rfl,h3⟩
          · rcases h5 with ⟨h5,_⟩ | ⟨q,h5,h7⟩
            · exact absurd h5 h4
            · exact .inr ⟨q,.inr ⟨h3,h5⟩,(plus_run _ q).2 ⟨u1,v1,rfl,h7,h6⟩⟩
        · exact .inr ⟨q,.inl h3,(plus_run _ q).2 ⟨u,v,rfl,h4,h2⟩⟩
theorem plus_L (w:List Int):A.plus.L σ w↔LCat (A.L σ) (LStar (A.L σ)) w:=by
 constructor
 ·rintro (⟨rfl,h⟩ | ⟨p,h,h2⟩)
  ·exact ⟨[],[],rfl,.inl ⟨rfl,h⟩,0,rfl⟩
  ·obtain ⟨u,v,e,h4,h5⟩:=(plus_run σ w p).1 h2
   exact ⟨u,v,e,.inr ⟨p,h,h4⟩,h5⟩
 ·rintro ⟨u,v,rfl,⟨rfl,h1⟩ | ⟨p,h1,h2⟩,h3⟩
  ·obtain ⟨j,hj⟩:=h3
   rcases lstar_cases hj with rfl | ⟨u1,v1,rfl,h4,h5,h6⟩
   ·exact .inl ⟨rfl,h1⟩
   ·rcases h5 with ⟨h5,_⟩ | ⟨q,h5,h7⟩
    ·exact absurd h5 h4
    ·exact .inr ⟨q,h5,(plus_run σ _ q).2 ⟨u1,v1,rfl,h7,h6⟩⟩
  ·exact .inr ⟨p,h1,(plus_run σ _ p).2 ⟨u,v,rfl,h2,h3⟩⟩
end
def bhas (x:Bag) (p:Nat):Prop:=p < 256∧x.has p=true
theorem bhas_bun {x y:Bag} {p:Nat}:bhas (bun x y) p↔bhas x p∨bhas y p:=by
 unfold bhas;rw [bun_has,Bool.or_eq_true,and_or_left]
theorem bhas_zero {p:Nat}:bhas Bag.zero p↔False:=by
 unfold bhas;rw [Bag.zero_has];simp
theorem bhas_single {n p:Nat} (hn:n < 256):bhas (single n) p↔p=n:=by
 constructor
 ·rintro ⟨h,h2⟩;rw [single_has _ _ h] at h2;exact of_decide_eq_true h2
 ·rintro rfl;exact ⟨hn,by rw [single_has _ _ hn];exact decide_eq_true rfl⟩
def fol (lk:List Lk) (p q:Nat):Prop:=∃ l∈lk,bhas l.1 p∧bhas l.2 q
theorem fol_nil {p q:Nat}:fol [] p q↔False:=by simp [fol]
theorem fol_app {l k:List Lk} {p q:Nat}:fol (l++k) p q↔fol l p q∨fol k p q:=by
 simp only [fol,List.mem_append,or_and_right,exists_or]
theorem fol_one {a b:Bag} {p q:Nat}:fol [(a,b)] p q↔bhas a p∧bhas b q:=by simp [fol]
theorem fol_perm {l k:List Lk} (h:l.Perm k) {p q:Nat}:fol l p q↔fol k p q:=by
 simp only [fol,h.mem_iff]
def mcO (lk:List Lk) (x:Pc):Mc:=⟨fol lk,bhas x.first,bhas x.ends,x.empty=true⟩
theorem join_I {a b:Pc} {p:Nat}:bhas (a.join b).first p↔bhas a.first p∨(a.empty=true∧bhas b.first p):=by
 unfold Pc.join;dsimp only
 cases a.empty with
 | true=>rw [if_pos rfl,bhas_bun];simp
 | false=>rw [if_neg (by decide)];simp
theorem join_E {a b:Pc} {p:Nat}:bhas (a.join b).ends p↔bhas b.ends p∨(b.empty=true∧bhas a.ends p):=by
 unfold Pc.join;dsimp only
 cases b.empty with
 | true=>rw [if_pos rfl,bhas_bun];simp
 | false=>rw [if_neg (by decide)];simp
theorem join_e {a b:Pc}:(a.join b).empty=true↔a.empty=true∧b.empty=true:=by
 unfold Pc.join;dsimp only;rw [Bool.and_eq_true]
theorem mcO_cat (l k:List Lk) (a b:Pc):mcO (l++k++[(a.ends,b.first)]) (a.join b)=(mcO l a).cat (mcO k b) :=
 mc_ext (fun p q=>by show fol _ p q↔fol l p q∨fol k p q∨_;rw [fol_app,fol_app,fol_one,or_assoc];rfl) (fun p=>join_I) (fun p=>join_E) join_e
theorem mcO_alt (l k:List Lk) (a b:Pc):mcO (l++k) ⟨bun a.first b.first,bun a.ends b.ends,a.empty||b.empty⟩=(mcO l a).alt (mcO k b) :=
 mc_ext (fun p q=>fol_app) (fun p=>bhas_bun) (fun p=>bhas_bun) (by show (_||_)=true↔_;rw [Bool.or_eq_true];rfl)
theorem mcO_nil:mcO [] Pc.nil=Mc.unit:=mc_ext (fun _ _=>fol_nil) (fun _=>bhas_zero) (fun _=>bhas_zero) (by show true=true↔True;simp)
theorem mcO_def:mcO [] default=Mc.void:=mc_ext (fun _ _=>fol_nil) (fun _=>bhas_zero) (fun _=>bhas_zero) (by show false=true↔False;simp)
section
variable (hi:Int) (g:Nat→Ly) (many:Nat)
def xkM (k:Nat):Mc:=if hi < 0∧k+1=many then (mcO (g k).lk (g k).pc).plus else mcO (g k).lk (g k).pc
def jjM:Nat→Mc
 | 0=>Mc.unit
 | k+1=>(jjM k).cat (xkM hi g many k)
def ttM:Nat→Nat→Mc
 | _,0=>Mc.unit
 | k,n+1=>((xkM hi g many k).cat (ttM (k+1) n)).opt
def restF:Nat→Nat→List Pc
 | _,0=>[]
 | k,n+1=>(g k).pc::restF (k+1) n
variable {hi:Int} {g:Nat→Ly} {many:Nat}
theorem restF_snoc:∀ n k,restF g k (n+1)=restF g k n++[(g (k+n)).pc]
  | 0,k=>rfl
  | n + 1, k => by
    rw [restF,restF_snoc n (k+1),restF,List.cons_append,show k+1+n=k+(n+1) by omega]
theorem restP_F (lo:Nat):∀ k,restP lo g k=restF g lo (k - lo)
  | 0=>by rw [Nat.zero_sub];rfl
  | k + 1 => by
    rw [restP]
    split
    · rw [restP_F lo k,show k - lo=0 by omega,show k+1 - lo=0 by omega]
    · rw [restP_F lo k,show k+1 - lo=(k - lo)+1 by omega,restF_snoc,show lo+(k - lo)=k by omega]
theorem xkM_I {k p:Nat}:(xkM hi g many k).I p↔bhas (g k).pc.first p:=by unfold xkM;split <;> exact Iff.rfl
theorem xkM_E {k p:Nat}:(xkM hi g many k).E p↔bhas (g k).pc.ends p:=by unfold xkM;split <;> exact Iff.rfl
theorem xkM_e {k:Nat}:(xkM hi g many k).e↔(g k).pc.empty=true:=by unfold xkM;split <;> exact Iff.rfl
theorem xkM_F {k p q:Nat}:(xkM hi g many k).F p q↔fol ((g k).lk++(if hi < 0∧k+1=many then [((g k).pc.ends,(g k).pc.first)] else [])) p q:=by
 unfold xkM
 split
 ·rw [fol_app,fol_one];exact Iff.rfl
 ·rw [List.append_nil];exact Iff.rfl
theorem lkP_F {p q:Nat}:∀ k,fol (lkP hi g many k) p q↔∃ i,i < k∧(xkM hi g many i).F p q
  | 0=>⟨fun h=>(fol_nil.1 h).elim,fun ⟨i,h,_⟩=>by omega⟩
  | k + 1 => by
    rw [lkP,List.append_assoc,fol_app,←xkM_F,lkP_F k]
    constructor
    · rintro (⟨i,h,h2⟩ | h)
      · exact ⟨i,by omega,h2⟩
      · exact ⟨k,by omega,h⟩
    · rintro ⟨i,h,h2⟩
      by_cases e:i=k
      · exact .inr (e▸h2)
      · exact .inl ⟨i,by omega,h2⟩
theorem jjM_o:∀ k,(∀ p,(jjM hi g many k).I p↔bhas (outJ g k).first p)∧(∀ p,(jjM hi g many k).E p↔bhas (outJ g k).ends p)∧((jjM hi g many k).e↔(outJ g k).empty=true)
  | 0=>⟨fun p=>bhas_zero.symm,fun p=>bhas_zero.symm,by show True↔true=true;simp⟩
  | k + 1 => by
    obtain ⟨h1,h2,h3⟩:=jjM_o k
    refine ⟨fun p=>?_,fun p=>?_,?_⟩
    · show (jjM hi g many k).I p∨((jjM hi g many k).e∧_)↔_
      rw [h1,h3,xkM_I];exact join_I.symm
    · show (xkM hi g many k).E p∨((xkM hi g many k).e∧(jjM hi g many k).E p)↔_
      rw [h2,xkM_e,xkM_E];exact join_E.symm
    · show _∧_↔_
      rw [h3,xkM_e];exact join_e.symm
theorem jjM_F {p q:Nat}:∀ k,(jjM hi g many k).F p q↔(∃ i,i < k∧(xkM hi g many i).F p q)∨fol (lkJ g k) p q
  | 0=>⟨fun h=>h.elim,fun h=>h.elim (fun ⟨i,h,_⟩=>by omega) (fun h=>fol_nil.1 h)⟩
  | k + 1 => by
    show _∨_∨_↔_
    rw [jjM_F k,(jjM_o k).2.1 p,xkM_I,lkJ,fol_app,fol_one]
    constructor
    · rintro ((⟨i,h,h2⟩ | h) | h | h)
      · exact .inl ⟨i,by omega,h2⟩
      · exact .inr (.inl h)
      · exact .inl ⟨k,by omega,h⟩
      · exact .inr (.inr h)
    · rintro (⟨i,h,h2⟩ | h | h)
      · by_cases e:i=k
        · exact .inr (.inl (e▸h2))
        · exact .inl (.inl ⟨i,by omega,h2⟩)
      · exact .inl (.inr h)
      · exact .inr (.inr h)
theorem ttM_o:∀ n k,(∀ p,(ttM hi g many k n).I p↔bhas (tailB (restF g k n)).2.first p)∧(∀ p,(ttM hi g many k n).E p↔bhas (tailB (restF g k n)).2.ends p)∧((ttM hi g many k n).e↔(tailB (restF g k n)).2.empty=true)
  | 0,k=>⟨fun p=>bhas_zero.symm,fun p=>bhas_zero.symm,by show True↔true=true;simp⟩
  | n + 1, k => by
    obtain ⟨h1,h2,h3⟩:=ttM_o n (k+1)
    refine ⟨fun p=>?_,fun p=>?_,?_⟩
    · show (xkM hi g many k).I p∨((xkM hi g many k).e∧(ttM hi g many (k+1) n).I p)↔_
      rw [h1,xkM_e,xkM_I];exact join_I.symm
    · show (ttM hi g many (k+1) n).E p∨((ttM hi g many (k+1) n).e∧(xkM hi g many k).E p)↔_
      rw [h2,h3,xkM_E];exact join_E.symm
    · show True↔true=true;simp
theorem ttM_F {p q:Nat}:∀ n k,(ttM hi g many k n).F p q↔(∃ i,k≤i∧i < k+n∧(xkM hi g many i).F p q)∨fol (tailB (restF g k n)).1 p q
  | 0,k=>⟨fun h=>h.elim,fun h=>h.elim (fun ⟨i,h,h2,_⟩=>by omega) (fun h=>fol_nil.1 h)⟩
  | n + 1, k => by
    show (xkM hi g many k).F p q∨(ttM hi g many (k+1) n).F p q∨((xkM hi g many k).E p∧(ttM hi g many (k+1) n).I q)↔_
    rw [ttM_F n (k+1),(ttM_o n (k+1)).1 q,xkM_E,restF,tailB,fol_app,fol_one]
    constructor
    · rintro (h | (⟨i,h,h2,h3⟩ | h) | h)
      · exact .inl ⟨k,Nat.le_refl _,by omega,h⟩
      · exact .inl ⟨i,by omega,by omega,h3⟩
      · exact .inr (.inl h)
      · exact .inr (.inr h)
    · rintro (⟨i,h,h2,h3⟩ | h | h)
      · by_cases e:i=k
        · exact .inl (e▸h3)
        · exact .inr (.inl (.inl ⟨i,by omega,by omega,h3⟩))
      · exact .inr (.inl (.inr h))
      · exact .inr (.inr h)
theorem layT_M {lo:Int} (hlo:0≤lo) (hm:lo.toNat≤manyOf lo hi):mcO (layT lo hi g).lk (layT lo hi g).pc=(jjM hi g (manyOf lo hi) lo.toNat).cat (ttM hi g (manyOf lo hi) lo.toNat (manyOf lo hi - lo.toNat)):=by
 obtain ⟨h1,h2,h3,h4⟩:=layA_doc (hi:=hi) hlo g (manyOf lo hi) (manyOf lo hi)
 rw [Nat.min_eq_right hm] at h2 h3
 obtain ⟨j1,j2,j3⟩:=jjM_o (hi:=hi) (g:=g) (many:=manyOf lo hi) lo.toNat
 obtain ⟨t1,t2,t3⟩:=ttM_o (hi:=hi) (g:=g) (many:=manyOf lo hi) (manyOf lo hi - lo.toNat) lo.toNat
 rw [restP_F] at h4
 refine mc_ext (fun p q=>?_) (fun p=>?_) (fun p=>?_) ?_
 ·show fol (layT lo hi g).lk p q↔(jjM hi g (manyOf lo hi) lo.toNat).F p q∨(ttM hi g (manyOf lo hi) lo.toNat (manyOf lo hi - lo.toNat)).F p q∨((jjM hi g (manyOf lo hi) lo.toNat).E p∧(ttM hi g (manyOf lo hi) lo.toNat (manyOf lo hi - lo.toNat)).I q)
  simp only [layT,h4,h3]
  rw [fol_app,fol_app,fol_perm h2,fol_app,fol_one,lkP_F,jjM_F,ttM_F,j2,t1]
  constructor
  ·rintro (((⟨i,h,h5⟩ | h) | h) | h)
   ·by_cases e:i < lo.toNat
    ·exact .inl (.inl ⟨i,e,h5⟩)
    ·exact .inr (.inl (.inl ⟨i,by omega,by omega,h5⟩))
   ·exact .inl (.inr h)
   ·exact .inr (.inl (.inr h))
   ·exact .inr (.inr h)
  ·rintro ((⟨i,h,h5⟩ | h) | (⟨i,h,h6,h5⟩ | h) | h)
   ·exact .inl (.inl (.inl ⟨i,by omega,h5⟩))
   ·exact .inl (.inl (.inr h))
   ·exact .inl (.inl (.inl ⟨i,by omega,h5⟩))
   ·exact .inl (.inr h)
   ·exact .inr h
 ·show bhas (layT lo hi g).pc.first p↔(jjM hi g (manyOf lo hi) lo.toNat).I p∨((jjM hi g (manyOf lo hi) lo.toNat).e∧(ttM hi g (manyOf lo hi) lo.toNat (manyOf lo hi - lo.toNat)).I p)
  simp only [layT,h4,h3]
  rw [j1,j3,t1];exact join_I
 ·show bhas (layT lo hi g).pc.ends p↔(ttM hi g (manyOf lo hi) lo.toNat (manyOf lo hi - lo.toNat)).E p∨((ttM hi g (manyOf lo hi) lo.toNat (manyOf lo hi - lo.toNat)).e∧(jjM hi g (manyOf lo hi) lo.toNat).E p)
  simp only [layT,h4,h3]
  rw [j2,t2,t3];exact join_E
 ·show (layT lo hi g).pc.empty=true↔(jjM hi g (manyOf lo hi) lo.toNat).e∧(ttM hi g (manyOf lo hi) lo.toNat (manyOf lo hi - lo.toNat)).e
  simp only [layT,h4,h3]
  rw [j3,t3];exact join_e
variable (σ:Nat→Int→Prop) {N w:Nat} {K:List Int→Prop}
theorem xkM_in {k:Nat} (h:(mcO (g k).lk (g k).pc).In (N+k * w) (N+k * w+w)):(xkM hi g many k).In (N+k * w) (N+(k+1) * w):=by
 rw [Nat.succ_mul,←Nat.add_assoc]
 unfold xkM;split
 ·exact plus_in h
 ·exact h
theorem jjM_in:∀ k,(∀ i,i < k→(mcO (g i).lk (g i).pc).In (N+i * w) (N+i * w+w))→(jjM hi g many k).In N (N+k * w)
 | 0,_=>unit_in
 | k+1,h=>cat_in ((jjM_in k fun i hi=>h i (by omega)).mono (Nat.le_refl _) (by rw [Nat.succ_mul];omega)) ((xkM_in (h k (by omega))).mono (by omega) (Nat.le_refl _))
theorem ttM_in:∀ n k,(∀ i,i < k+n→(mcO (g i).lk (g i).pc).In (N+i * w) (N+i * w+w))→(ttM hi g many k n).In (N+k * w) (N+(k+n) * w)
  | 0,k,_=>unit_in
  | n + 1, k, h => by
    have h1:=ttM_in n (k+1) (fun i hi=>h i (by omega))
    have e:k+1+n=k+(n+1):=by omega
    rw [e] at h1
    have h2:(k+1) * w≤(k+(n+1)) * w:=Nat.mul_le_mul_right _ (by omega)
    exact opt_in (cat_in ((xkM_in (h k (by omega))).mono (Nat.le_refl _) (by omega)) (h1.mono (by rw [Nat.succ_mul];omega) (Nat.le_refl _)))
theorem jjM_L:∀ k,(hi < 0→k < many)→(∀ i,i < k→(mcO (g i).lk (g i).pc).In (N+i * w) (N+i * w+w)∧∀ u,(mcO (g i).lk (g i).pc).L σ u↔K u)→∀ u,(jjM hi g many k).L σ u↔LPow K k u
  | 0,_,_,u=>unit_L σ u
  | k + 1, hk, h, u => by
    show ((jjM hi g many k).cat (xkM hi g many k)).L σ u↔LCat (LPow K k) K u
    rw [cat_L σ (jjM_in k fun i hi=>(h i (by omega)).1) (xkM_in (h k (by omega)).1)]
    refine lcat_congr (fun u=>jjM_L k (fun h=>by have:=hk h;omega) (fun i hi=>h i (by omega)) u) (fun u=>?_) u
    unfold xkM
    rw [if_neg (fun h2=>by have:=hk h2.1;omega)]
    exact (h k (by omega)).2 u
theorem ttM_L (hhi:¬ hi < 0):∀ n k,(∀ i,i < k+n→(mcO (g i).lk (g i).pc).In (N+i * w) (N+i * w+w)∧∀ u,(mcO (g i).lk (g i).pc).L σ u↔K u)→∀ u,(ttM hi g many k n).L σ u↔∃ j,j≤n∧LPow K j u
  | 0,k,_,u=>(unit_L σ u).trans ⟨fun h=>⟨0,Nat.le_refl _,h⟩,fun ⟨j,h,h2⟩=>by obtain rfl:j=0:=(by omega);exact h2⟩
  | n + 1, k, h, u => by
    show (((xkM hi g many k).cat (ttM hi g many (k+1) n)).opt).L σ u↔_
    rw [opt_L,cat_L σ (xkM_in (h k (by omega)).1) (ttM_in n (k+1) fun i hi=>(h i (by omega)).1),
      lcat_congr (L':=K) (K':=fun u=>∃ j,j≤n∧LPow K j u) (fun u=>by unfold xkM;rw [if_neg (fun h2=>hhi h2.1)];exact (h k (by omega)).2 u) (ttM_L hhi n (k+1) fun i hi=>h i (by omega))]
    constructor
    · rintro (h1 | ⟨a,b,e,h1,j,h2,h3⟩)
      · exact ⟨0,by omega,h1⟩
      · exact ⟨j+1,by omega,lpow_front.2 ⟨a,b,e,h1,h3⟩⟩
    · rintro ⟨j,h1,h2⟩
      cases j with
      | zero=>exact .inl h2
      | succ j =>
        obtain ⟨a,b,e,h3,h4⟩:=lpow_front.1 h2
        exact .inr ⟨a,b,e,h3,j,by omega,h4⟩
theorem layT_L {lo:Int} (hlo:0≤lo) (hh:hi=-1∨(lo≤hi∧0≤hi)) (h:∀ i,i < manyOf lo hi→(mcO (g i).lk (g i).pc).In (N+i * w) (N+i * w+w)∧∀ u,(mcO (g i).lk (g i).pc).L σ u↔K u) :
    (mcO (layT lo hi g).lk (layT lo hi g).pc).In N (N+manyOf lo hi * w)∧∀ u,(mcO (layT lo hi g).lk (layT lo hi g).pc).L σ u↔∃ k:Nat,lo≤(k:Int)∧(hi < 0∨(k:Int)≤hi)∧LPow K k u:=by
  have hm:lo.toNat≤manyOf lo hi:=by unfold manyOf;split <;> (try split) <;> omega
  have hj:=jjM_in (hi:=hi) (g:=g) (many:=manyOf lo hi) (N:=N) (w:=w) lo.toNat (fun i hi=>(h i (by omega)).1)
  have ht:=ttM_in (hi:=hi) (g:=g) (many:=manyOf lo hi) (N:=N) (w:=w) (manyOf lo hi - lo.toNat) lo.toNat (fun i hi=>(h i (by omega)).1)
  rw [show lo.toNat+(manyOf lo hi - lo.toNat)=manyOf lo hi by omega] at ht
  have hle:lo.toNat * w≤manyOf lo hi * w:=Nat.mul_le_mul_right _ hm
  rw [layT_M hlo hm]
  refine ⟨cat_in (hj.mono (Nat.le_refl _) (by omega)) (ht.mono (by omega) (Nat.le_refl _)),fun u=>?_⟩
  rw [cat_L σ hj ht]
  by_cases hneg:hi < 0
  · have em:manyOf lo hi=if 1 > lo then 1 else lo.toNat:=by unfold manyOf;rw [if_pos hneg];split <;> rfl
    have hst:∀ (k:Nat),k+1=manyOf lo hi→∀ u,(xkM hi g (manyOf lo hi) k).L σ u↔LCat K (LStar K) u:=fun k hk u=>by
      unfold xkM
      rw [if_pos ⟨hneg,hk⟩,plus_L]
      have e:Mc.L σ (mcO (g k).lk (g k).pc)=K:=funext fun u=>propext ((h k (by omega)).2 u)
      rw [e]
    by_cases hl:1 > lo
    · have e0:lo.toNat=0:=by omega
      rw [if_pos hl] at em
      have hst0:=hst 0 (by omega)
      have hx0:=xkM_in (hi:=hi) (many:=manyOf lo hi) (h 0 (by omega)).1
      rw [e0,em] at *
      show LCat (Mc.unit.L σ) ((((xkM hi g 1 0).cat Mc.unit).opt).L σ) u↔_
      constructor
      · rintro ⟨a,b,rfl,h1,h2⟩
        rw [unit_L] at h1
        subst h1
        rw [opt_L,cat_L σ hx0 (unit_in (M:=N+(0+1) * w))] at h2
        rcases h2 with rfl | ⟨c,d,rfl,h2,h3⟩
        · exact ⟨0,by omega,.inl hneg,rfl⟩
        · rw [unit_L] at h3
          subst h3
          rw [hst0] at h2
          obtain ⟨c1,c2,rfl,h4,j,h5⟩:=h2
          exact ⟨j+1,by omega,.inl hneg,lpow_front.2 ⟨c1,c2,by simp,h4,h5⟩⟩
      · rintro ⟨k,h1,h2,h3⟩
        refine ⟨[],u,rfl,(unit_L σ _).2 rfl,?_⟩
        rw [opt_L,cat_L σ hx0 (unit_in (M:=N+(0+1) * w))]
        cases k with
        | zero=>exact .inl h3
        | succ k =>
          obtain ⟨c1,c2,rfl,h4,h5⟩:=lpow_front.1 h3
          exact .inr ⟨c1++c2,[],by simp,(hst0 _).2 ⟨c1,c2,rfl,h4,k,h5⟩,(unit_L σ _).2 rfl⟩
    · rw [if_neg hl] at em
      obtain ⟨l,el⟩:∃ l,lo.toNat=l+1:=⟨lo.toNat - 1,by omega⟩
      have hstl:=hst l (by omega)
      have hxl:=xkM_in (hi:=hi) (many:=manyOf lo hi) (h l (by omega)).1
      have hjl:=jjM_in (hi:=hi) (g:=g) (many:=manyOf lo hi) (N:=N) (w:=w) l (fun i hi=>(h i (by omega)).1)
      have hjL:=jjM_L σ (hi:=hi) (g:=g) (many:=manyOf lo hi) (N:=N) (w:=w) (K:=K) l (fun _=>by omega) (fun i hi=>h i (by omega))
      rw [show manyOf lo hi - lo.toNat=0 by omega,el]
      show LCat (((jjM hi g (manyOf lo hi) l).cat (xkM hi g (manyOf lo hi) l)).L σ) (Mc.unit.L σ) u↔_
      constructor
      · rintro ⟨a,b,rfl,h1,h2⟩
        rw [unit_L] at h2
        subst h2
        rw [cat_L σ hjl hxl] at h1
        obtain ⟨c,d,rfl,h3,h4⟩:=h1
        rw [hstl] at h4
        obtain ⟨d1,d2,rfl,h5,j,h6⟩:=h4
        exact ⟨l+(j+1),by omega,.inl hneg,(lpow_add l).2 ⟨c,d1++d2,by simp,(hjL _).1 h3,lpow_front.2 ⟨d1,d2,rfl,h5,h6⟩⟩⟩
      · rintro ⟨k,h1,h2,h3⟩
        obtain ⟨j,rfl⟩:∃ j,k=l+(j+1):=⟨k - l - 1,by omega⟩
        obtain ⟨c,d,rfl,h4,h5⟩:=(lpow_add l).1 h3
        obtain ⟨d1,d2,rfl,h6,h7⟩:=lpow_front.1 h5
        refine ⟨c++(d1++d2),[],by simp,?_,(unit_L σ _).2 rfl⟩
        rw [cat_L σ hjl hxl]
        exact ⟨c,d1++d2,rfl,(hjL _).2 h4,(hstl _).2 ⟨d1,d2,rfl,h6,j,h7⟩⟩
  · have hjL:=jjM_L σ (hi:=hi) (g:=g) (many:=manyOf lo hi) (N:=N) (w:=w) (K:=K) lo.toNat (fun h=>absurd h hneg) (fun i hi=>h i (by omega))
    have htL:=ttM_L σ (hi:=hi) (g:=g) (many:=manyOf lo hi) (N:=N) (w:=w) (K:=K) hneg (manyOf lo hi - lo.toNat) lo.toNat (fun i hi=>h i (by omega))
    have em:manyOf lo hi=hi.toNat:=by unfold manyOf;rw [if_neg hneg]
    rw [lcat_congr hjL htL]
    constructor
    · rintro ⟨a,b,rfl,h1,j,h2,h3⟩
      exact ⟨lo.toNat+j,by omega,.inr (by omega),(lpow_add _).2 ⟨a,b,rfl,h1,h3⟩⟩
    · rintro ⟨k,h1,h2,h3⟩
      obtain ⟨j,rfl⟩:∃ j,k=lo.toNat+j:=⟨k - lo.toNat,by omega⟩
      obtain ⟨a,b,rfl,h4,h5⟩:=(lpow_add _).1 h3
      exact ⟨a,b,rfl,h4,j,by omega,h5⟩
end
theorem lcat_assoc {L K J:List Int→Prop} {w:List Int}:LCat (LCat L K) J w↔LCat L (LCat K J) w:=by
 constructor
 ·rintro ⟨_,v,rfl,⟨a,b,rfl,h1,h2⟩,h3⟩
  exact ⟨a,b++v,List.append_assoc ..,h1,b,v,rfl,h2,h3⟩
 ·rintro ⟨a,_,rfl,h1,b,v,rfl,h2,h3⟩
  exact ⟨a++b,v,(List.append_assoc ..).symm,⟨a,b,rfl,h1,h2⟩,h3⟩
def SymAt (σ:Nat→Int→Prop) (N:Nat) (on:List Bag):Prop:=∀ i,i < on.length→∀ a,σ (N+i) a↔a∈(on.getD i Bag.zero).list
section
variable {σ:Nat→Int→Prop} {N:Nat}
theorem SymAt.left {a b:List Bag} (h:SymAt σ N (a++b)):SymAt σ N a:=fun i hi x=>by
 have:=h i (by rw [List.length_append];omega) x
 rwa [List.getD_eq_getElem?_getD,List.getElem?_append_left hi,←List.getD_eq_getElem?_getD] at this
theorem SymAt.right {a b:List Bag} (h:SymAt σ N (a++b)):SymAt σ (N+a.length) b:=fun i hi x=>by
 have:=h (a.length+i) (by rw [List.length_append];omega) x
 rwa [List.getD_eq_getElem?_getD,List.getElem?_append_right (by omega),←List.getD_eq_getElem?_getD,Nat.add_sub_cancel_left,←Nat.add_assoc] at this
theorem SymAt.pre {a l:List Bag} (h:SymAt σ N l) (hp:a <+: l):SymAt σ N a:=by
 obtain ⟨b,rfl⟩:=hp
 exact h.left
end
theorem onP_pre (g:Nat→Ly) (k:Nat):∀ d,onP g k <+: onP g (k+d)
 | 0=>List.prefix_refl _
 | d+1=>(onP_pre g k d).trans (List.prefix_append _ _)
theorem layR_on (m:List UInt8→Bag):∀ (ts:List T) (N:Nat) (a:Ly),a.on <+: (layR m ts N a).on
 | [],N,a=>by simp only [layR];exact List.prefix_refl _
 | t::ts,N,a=>by simp only [layR];exact (List.prefix_append _ _).trans (layR_on m ts (N+t.w) ⟨a.on++(lay m t N).on,a.lk++(lay m t N).lk++[(a.pc.ends,(lay m t N).pc.first)],a.pc.join (lay m t N).pc⟩)
theorem layC_on (m:List UInt8→Bag):∀ (ts:List T) (N:Nat) (a:Ly),a.on <+: (layC m ts N a).on
 | [],N,a=>by simp only [layC];exact List.prefix_refl _
 | t::ts,N,a=>by simp only [layC];exact (List.prefix_append _ _).trans (layC_on m ts (N+t.w) ⟨a.on++(lay m t N).on,a.lk++(lay m t N).lk,⟨bun a.pc.first (lay m t N).pc.first,bun a.pc.ends (lay m t N).pc.ends,a.pc.empty||(lay m t N).pc.empty⟩⟩)
mutual
theorem lay_L {m:List UInt8→Bag} (hm:∀ s,(m s).ok) (σ:Nat→Int→Prop):∀ (t:T) (N:Nat),t.ok=true→N+t.w≤256→SymAt σ N (lay m t N).on →
    (mcO (lay m t N).lk (lay m t N).pc).In N (N+t.w)∧∀ u,(mcO (lay m t N).lk (lay m t N).pc).L σ u↔Lang m t u
  | .name s, N, _, hN, hs => by
    simp only [T.w] at hN ⊢
    simp only [lay] at hs ⊢
    have hs0:∀ a,σ N a↔a∈(m s).list:=fun a=>hs 0 (by simp) a
    have h1:∀ p,bhas (single N) p↔p=N:=fun p=>bhas_single (by omega)
    refine ⟨⟨fun h=>(fol_nil.1 h).elim,fun h=>by have:=(h1 _).1 h;omega,fun h=>by have:=(h1 _).1 h;omega⟩,fun u=>?_⟩
    simp only [Lang]
    constructor
    · rintro (⟨_,h⟩ | ⟨p,h,h2⟩)
      · cases h
      · obtain rfl:=(h1 _).1 h
        cases u with
        | nil=>exact h2.elim
        | cons a u =>
          obtain ⟨h3,⟨rfl,_⟩ | ⟨q,h4,_⟩⟩:=h2
          · exact ⟨a,rfl,(hs0 a).1 h3⟩
          · exact (fol_nil.1 h4).elim
    · rintro ⟨a,rfl,h⟩
      exact .inr ⟨N,(h1 N).2 rfl,(hs0 a).2 h,.inl ⟨rfl,(h1 N).2 rfl⟩⟩
  | .times lo hi t, N, hok, hN, hs => by
    simp only [T.w] at hN ⊢
    simp only [T.ok,Bool.and_eq_true,Bool.or_eq_true,decide_eq_true_eq] at hok
    simp only [lay] at hs ⊢
    simp only [Lang]
    obtain ⟨⟨⟨hlo,hlo2⟩,hh⟩,hokt⟩:=hok
    have hkw:∀ k,k < manyOf lo hi→N+k * t.w+t.w≤256:=fun k hk=>by
      have:(k+1) * t.w≤manyOf lo hi * t.w:=Nat.mul_le_mul_right _ hk
      rw [Nat.succ_mul] at this
      rw [Nat.mul_comm] at hN
      omega
    rw [(layT_doc hlo (fun k=>lay m t (N+k * t.w)) (fun _=>Bag.zero)).1] at hs
    have hg:∀ k,k < manyOf lo hi→((fun k=>lay m t (N+k * t.w)) k).Ok (N+k * t.w) t.w:=fun k hk=>lay_ok hm t _ (hkw k hk)
    rw [Nat.mul_comm t.w]
    refine layT_L σ hlo ?_ (fun i hil=>lay_L hm σ t (N+i * t.w) hokt (hkw i hil) ?_)
    · rcases hh with hh | ⟨h1,h2⟩
      · exact .inl hh
      · split at h1
        · exact .inr ⟨by omega,by omega⟩
        · exact .inr ⟨by omega,by omega⟩
    · have h1:=hs.pre (a:=onP (fun k=>lay m t (N+k * t.w)) (i+1)) (by
        have:=onP_pre (fun k=>lay m t (N+k * t.w)) (i+1) (manyOf lo hi - (i+1))
        rwa [show i+1+(manyOf lo hi - (i+1))=manyOf lo hi by omega] at this)
      have h2:=SymAt.right (a:=onP (fun k=>lay m t (N+k * t.w)) i) (b:=lay m t (N+i * t.w) |>.on) h1
      rwa [onP_len hg i (by omega)] at h2
  | .many k ts, N, hok, hN, hs => by
    simp only [T.w] at hN ⊢
    simp only [T.ok,Bool.and_eq_true] at hok
    simp only [lay] at hs ⊢
    simp only [Lang]
    by_cases h3:k=3
    · simp only [if_pos h3] at hs ⊢
      obtain ⟨h1,h2⟩:=layC_L hm σ ts N N ⟨[],[],default⟩ hok.2 hN (by simp) (by rw [mcO_def];exact void_in) hs
      refine ⟨h1,fun u=>?_⟩
      rw [h2,mcO_def,void_L];simp
    · simp only [if_neg h3] at hs ⊢
      obtain ⟨h1,h2⟩:=layR_L hm σ ts N N ⟨[],[],Pc.nil⟩ hok.2 hN (by simp) (by rw [mcO_nil];exact unit_in) hs
      refine ⟨h1,fun u=>?_⟩
      rw [h2]
      constructor
      · rintro ⟨a,b,rfl,h4,h5⟩
        rw [mcO_nil,unit_L] at h4
        subst h4
        exact h5
      · exact fun h=>⟨[],u,rfl,by rw [mcO_nil,unit_L],h⟩
theorem layC_L {m:List UInt8→Bag} (hm:∀ s,(m s).ok) (σ:Nat→Int→Prop):∀ (ts:List T) (N N0:Nat) (a:Ly),T.okL ts=true→N+T.wL ts≤256→N0+a.on.length=N→(mcO a.lk a.pc).In N0 N→SymAt σ N0 (layC m ts N a).on →
    (mcO (layC m ts N a).lk (layC m ts N a).pc).In N0 (N+T.wL ts)∧∀ u,(mcO (layC m ts N a).lk (layC m ts N a).pc).L σ u↔(mcO a.lk a.pc).L σ u∨LAny m ts u
  | [], N, N0, a, _, hN, hl, ha, hs => by
    simp only [layC,T.wL,Nat.add_zero,LAny,or_false]
    exact ⟨ha,fun u=>trivial⟩
  | t :: ts, N, N0, a, hok, hN, hl, ha, hs => by
    simp only [T.wL] at hN ⊢
    simp only [T.okL,Bool.and_eq_true] at hok
    simp only [layC] at hs ⊢
    have hlen:=(lay_ok hm t N (by omega)).len
    have hst:SymAt σ N0 (a.on++(lay m t N).on):=hs.pre (layC_on m ts (N+t.w) ⟨a.on++(lay m t N).on,a.lk++(lay m t N).lk,⟨bun a.pc.first (lay m t N).pc.first,bun a.pc.ends (lay m t N).pc.ends,a.pc.empty||(lay m t N).pc.empty⟩⟩)
    have hst2:SymAt σ N (lay m t N).on:=by have:=hst.right;rwa [hl] at this
    obtain ⟨h1,h2⟩:=lay_L hm σ t N hok.1 (by omega) hst2
    obtain ⟨h3,h4⟩:=layC_L hm σ ts (N+t.w) N0 ⟨a.on++(lay m t N).on,a.lk++(lay m t N).lk,⟨bun a.pc.first (lay m t N).pc.first,bun a.pc.ends (lay m t N).pc.ends,a.pc.empty||(lay m t N).pc.empty⟩⟩ hok.2 (by omega)
      (by show N0+(a.on++(lay m t N).on).length=_;rw [List.length_append,hlen];omega) (by rw [mcO_alt];exact alt_in (ha.mono (Nat.le_refl _) (by omega)) (h1.mono (by omega) (Nat.le_refl _))) hs
    refine ⟨by rw [←Nat.add_assoc];exact h3,fun u=>?_⟩
    rw [h4];dsimp only;rw [mcO_alt,alt_L σ ha h1,h2,or_assoc]
    simp only [LAny]
theorem layR_L {m:List UInt8→Bag} (hm:∀ s,(m s).ok) (σ:Nat→Int→Prop):∀ (ts:List T) (N N0:Nat) (a:Ly),T.okL ts=true→N+T.wL ts≤256→N0+a.on.length=N→(mcO a.lk a.pc).In N0 N→SymAt σ N0 (layR m ts N a).on →
    (mcO (layR m ts N a).lk (layR m ts N a).pc).In N0 (N+T.wL ts)∧∀ u,(mcO (layR m ts N a).lk (layR m ts N a).pc).L σ u↔LCat ((mcO a.lk a.pc).L σ) (LSeq m ts) u
  | [], N, N0, a, _, hN, hl, ha, hs => by
    simp only [layR,T.wL,Nat.add_zero]
    exact ⟨ha,fun u=>⟨fun h=>⟨u,[],by simp,h,by simp only [LSeq]⟩,by
      rintro ⟨x,y,rfl,h1,h2⟩
      simp only [LSeq] at h2
      subst h2;rw [List.append_nil];exact h1⟩⟩
  | t :: ts, N, N0, a, hok, hN, hl, ha, hs => by
    simp only [T.wL] at hN ⊢
    simp only [T.okL,Bool.and_eq_true] at hok
    simp only [layR] at hs ⊢
    have hlen:=(lay_ok hm t N (by omega)).len
    have hst:SymAt σ N0 (a.on++(lay m t N).on):=hs.pre (layR_on m ts (N+t.w) ⟨a.on++(lay m t N).on,a.lk++(lay m t N).lk++[(a.pc.ends,(lay m t N).pc.first)],a.pc.join (lay m t N).pc⟩)
    have hst2:SymAt σ N (lay m t N).on:=by have:=hst.right;rwa [hl] at this
    obtain ⟨h1,h2⟩:=lay_L hm σ t N hok.1 (by omega) hst2
    obtain ⟨h3,h4⟩:=layR_L hm σ ts (N+t.w) N0 ⟨a.on++(lay m t N).on,a.lk++(lay m t N).lk++[(a.pc.ends,(lay m t N).pc.first)],a.pc.join (lay m t N).pc⟩ hok.2 (by omega)
      (by show N0+(a.on++(lay m t N).on).length=_;rw [List.length_append,hlen];omega) (by rw [mcO_cat];exact cat_in (ha.mono (Nat.le_refl _) (by omega)) (h1.mono (by omega) (Nat.le_refl _))) hs
    refine ⟨by rw [←Nat.add_assoc];exact h3,fun u=>?_⟩
    rw [h4];dsimp only
    rw [mcO_cat,lcat_congr (fun u=>(cat_L σ ha h1 u).trans (lcat_congr (fun _=>Iff.rfl) h2 u)) (fun _=>Iff.rfl),lcat_assoc]
    exact lcat_congr (fun _=>Iff.rfl) (fun u=>by simp only [LSeq];exact Iff.rfl) u
end
theorem links_fol {p q:Nat} (hp:p < 256):∀ (lk:List Lk) (β:Nat→Bag),bhas (links β lk p) q↔bhas (β p) q∨fol lk p q
  | [],β=>⟨.inl,fun h=>h.elim id fun h=>(fol_nil.1 h).elim⟩
  | l :: lk, β => by
    have e:fol (l::lk) p q↔(bhas l.1 p∧bhas l.2 q)∨fol lk p q:=by
      have:=fol_app (l:=[l]) (k:=lk) (p:=p) (q:=q)
      rw [List.singleton_append] at this
      rw [this,fol_one]
    show bhas (links (linkF β l) lk p) q↔_
    rw [links_fol hp lk,e,←or_assoc]
    refine or_congr ?_ Iff.rfl
    unfold linkF
    split
    · rename_i h
      rw [bhas_bun]
      exact or_congr Iff.rfl ⟨fun h2=>⟨⟨hp,h⟩,h2⟩,fun h2=>h2.2⟩
    · rename_i h
      exact ⟨.inl,fun h2=>h2.elim id fun h3=>absurd h3.1.2 h⟩
theorem has_some {x:Bag} {p:Nat} (h:x.has p=true):∃ p',bhas x p':=by
 by_cases hp:p < 256
 ·exact ⟨p,hp,h⟩
 ·obtain ⟨q,hq⟩:∃ q,p=64 * (q+3)+p % 64:=⟨p / 64 - 3,by omega⟩
  rw [hq,x.has_at _ _ (by omega)] at h
  refine ⟨64 * 3+p % 64,by omega,?_⟩
  rw [x.has_at _ _ (by omega),←h]
  cases q <;> rfl
theorem links_in {M:Nat} {x:Pc} {lk:List Lk} (h:(mcO lk x).In 0 M) (p:Nat):InB 0 M (links (fun _=>Bag.zero) lk p):=by
  have key:∀ (l:List Lk) (β:Nat→Bag),(∀ y∈l,y∈lk)→InB 0 M (β p)→InB 0 M (links β l p):=by
    intro l
    induction l with
    | nil=>exact fun β _ h=>h
    | cons y l ih =>
      intro β hy hb
      refine ih (linkF β y) (fun z hz=>hy z (List.mem_cons_of_mem _ hz)) ?_
      unfold linkF
      split
      · rename_i hh
        obtain ⟨p',hp'⟩:=has_some hh
        exact inB_or hb (fun q hq h3=>(h.F (p:=p') (q:=q) ⟨y,hy y (List.mem_cons_self ..),hp',hq,h3⟩).2)
      · exact hb
  exact key lk _ (fun _ h=>h) (inB_zero _ _)
end Go.Proofs.YtldjnmljnlhaaaaGreatDoor
namespace Go.Proofs.YtldjnmljnlhaaaaGreatDoor
set_option linter.unusedSimpArgs false
set_option linter.unusedVariables false
set_option linter.unusedSectionVars false
set_option maxRecDepth 100000
set_option maxHeartbeats 1000000
open Go.RowKit
section
variable {on:List Bag} {β:Nat→Bag} {ends:Bag} {a:Int}
theorem mem_bag (x:Bag) {p:Int}:p∈x.list↔∃ q:Nat,p=(q:Int)∧bhas x q:=by
 rw [x.list_eq,List.mem_map]
 constructor
 ·rintro ⟨q,hq,rfl⟩
  have:=List.mem_filter.1 hq
  exact ⟨q,rfl,List.mem_range.1 this.1,this.2⟩
 ·rintro ⟨q,rfl,h1,h2⟩
  exact ⟨q,List.mem_filter.2 ⟨List.mem_range.2 h1,h2⟩,rfl⟩
theorem nextL_bag {q:Nat}:∀ (ps:List Int) (x:Bag),bhas (ps.foldl (fun nx p=>if a∈(onF on p.toNat).list then bun nx (β p.toNat) else nx) x) q↔bhas x q∨∃ p∈ps,a∈(onF on p.toNat).list∧bhas (β p.toNat) q
  | [],x=>by simp
  | p :: ps, x => by
    rw [List.foldl_cons,nextL_bag ps]
    simp only [List.mem_cons,or_and_right,exists_or,exists_eq_left]
    rw [←or_assoc]
    refine or_congr ?_ Iff.rfl
    split
    · rename_i h
      rw [bhas_bun]
      exact or_congr Iff.rfl ⟨fun h2=>⟨h,h2⟩,fun h2=>h2.2⟩
    · rename_i h
      exact ⟨.inl,fun h2=>h2.elim id fun h3=>absurd h3.1 h⟩
theorem goV_run {σ:Nat→Int→Prop} (hσ:∀ p a,p < 256→(σ p a↔a∈(onF on p).list)) (A:Mc) (hF:∀ p q,p < 256→(A.F p q↔bhas (β p) q)) (hE:∀ p,A.E p↔bhas ends p) :
    ∀ (w:List Int) (now:Bag) (fits:Bool),goV on β ends now fits w=true↔(w=[]∧fits=true)∨∃ p,bhas now p∧McRun σ A w p
  | [], now, fits => by
    show fits=true↔_
    constructor
    · exact fun h=>.inl ⟨rfl,h⟩
    · rintro (⟨_,h⟩ | ⟨_,_,h⟩)
      · exact h
      · exact h.elim
  | a :: w, now, fits => by
    show goV on β ends (nextL on β now.list a) (lastL on ends now.list a) w=true↔_
    rw [goV_run hσ A hF hE w]
    unfold nextL lastL
    constructor
    · rintro (⟨rfl,h⟩ | ⟨q,h,h2⟩)
      · rw [List.any_eq_true] at h
        obtain ⟨p,hp,h⟩:=h
        rw [Bool.and_eq_true,decide_eq_true_eq,decide_eq_true_eq] at h
        obtain ⟨p,rfl,hpb⟩:=(mem_bag now).1 hp
        obtain ⟨p2,e,h3⟩:=(mem_bag ends).1 h.2
        obtain rfl:p=p2:=by omega
        exact .inr ⟨p,hpb,(hσ p a hpb.1).2 h.1,.inl ⟨rfl,(hE p).2 h3⟩⟩
      · obtain ⟨p,hp,h3,h4⟩:=((nextL_bag _ _).1 h).resolve_left fun h=>bhas_zero.1 h
        obtain ⟨p,rfl,hpb⟩:=(mem_bag now).1 hp
        exact .inr ⟨p,hpb,(hσ p a hpb.1).2 h3,.inr ⟨q,(hF p q hpb.1).2 h4,h2⟩⟩
    · rintro (⟨h,_⟩ | ⟨p,hp,hs,h | ⟨q,h,h2⟩⟩)
      · cases h
      · refine .inl ⟨h.1,?_⟩
        rw [List.any_eq_true]
        exact ⟨(p:Int),(mem_bag now).2 ⟨p,rfl,hp⟩,by rw [Bool.and_eq_true,decide_eq_true_eq,decide_eq_true_eq];exact ⟨(hσ p a hp.1).1 hs,(mem_bag ends).2 ⟨p,rfl,(hE p).1 h.2⟩⟩⟩
      · exact .inr ⟨q,(nextL_bag _ _).2 (.inr ⟨(p:Int),(mem_bag now).2 ⟨p,rfl,hp⟩,(hσ p a hp.1).1 hs,(hF p q hp.1).1 h⟩),h2⟩
end
theorem goV_nil (on:List Bag) (w:List Int):goV on (fun _=>Bag.zero) Bag.zero Bag.zero true w=decide (w.length=0):=by
 rw [Bool.eq_iff_iff,goV_run (σ:=fun p a=>a∈(onF on p).list) (fun _ _ _=>Iff.rfl) Mc.unit (fun p q _=>bhas_zero.symm) (fun p=>bhas_zero.symm),decide_eq_true_eq,List.length_eq_zero_iff]
 exact ⟨fun h=>h.elim (fun h=>h.1) (fun ⟨_,h,_⟩=>(bhas_zero.1 h).elim),fun h=>.inl ⟨h,rfl⟩⟩
theorem lay_mc {m:List UInt8→Bag} (hm:∀ s,(m s).ok) {t:T} (hok:t.ok=true) (hw:t.w≤256) :
  (mcO (lay m t 0).lk (lay m t 0).pc).In 0 (0+t.w)∧∀ u,(mcO (lay m t 0).lk (lay m t 0).pc).L (fun p a=>a∈(onF (lay m t 0).on p).list) u↔Lang m t u :=
 lay_L hm _ t 0 hok (by omega) (fun i hi a=>by show a∈(onF (lay m t 0).on (0+i)).list↔_;rw [Nat.zero_add])
theorem goV_lay {m:List UInt8→Bag} (hm:∀ s,(m s).ok) {t:T} (hok:t.ok=true) (hw:t.w≤256) (w:List Int) :
  goV (lay m t 0).on (links (fun _=>Bag.zero) (lay m t 0).lk) (lay m t 0).pc.ends (lay m t 0).pc.first (lay m t 0).pc.empty w=fitB m t w:=by
 classical
 have h:=(lay_mc hm hok hw).2 w
 rw [Bool.eq_iff_iff,goV_run (σ:=fun p a=>a∈(onF (lay m t 0).on p).list) (fun _ _ _=>Iff.rfl) (mcO (lay m t 0).lk (lay m t 0).pc) (fun p q hp=>by
  rw [links_fol hp,bhas_zero,false_or];exact Iff.rfl) (fun p=>Iff.rfl)]
 unfold fitB
 rw [decide_eq_true_eq]
 exact h
section
variable {s:List UInt8} {l:List Mn} {wd:Nat} {on:List Bag} {β:Nat→Bag} {p:Pc} {e:List Pt}
theorem NetOk.inF (V:NetOk s l wd on β p e):InB 0 wd p.first:=by
 rcases V.is with ⟨_,_,_,_,h⟩ | ⟨t,hok,_,hw,_,_,h⟩
 ·rw [h];exact inB_zero _ _
 ·rw [h,hw];exact (lay_ok (means_ok l) t 0 (by have:=V.w60;omega)).inB.1
theorem NetOk.inβ (V:NetOk s l wd on β p e) (q:Nat):InB 0 wd (β q):=by
 rcases V.is with ⟨_,_,_,h,_⟩ | ⟨t,hok,_,hw,_,h,_⟩
 ·rw [h];exact inB_zero _ _
 ·rw [h,hw];exact links_in (lay_mc (means_ok l) hok (by have:=V.w60;omega)).1 q
theorem NetOk.fits (V:NetOk s l wd on β p e) (w:List Int) (hw:w.length≤900):HPure Tryz.prog 25 [ptsV e,mnsV l,iListV w] (boolV (goV on β p.ends p.first p.empty w)):=by
 have hV:=V.is
 have hPB:=V.ptb
 have h60:=V.w60
 have hB:=V.mnb
 clear V
 rcases hV with ⟨rfl,rfl,rfl,hb,rfl⟩ | ⟨t,hok,rfl,rfl,rfl,rfl,rfl⟩
 ·obtain rfl:β=fun _=>Bag.zero:=funext hb
  have:=rfits0_h l w (by omega)
  rw [←goV_nil [] w] at this
  exact this
 ·rw [goV_lay (means_ok l) hok (by omega)]
  exact rfits_h l hB t hok hPB w hw
end
def psK (x:Bag) (k:Nat):List Int:=((List.range k).filter x.has).map fun j:Nat=>(j:Int)
theorem psK_yes {x:Bag} {k:Nat} (h:x.has k=true):psK x (k+1)=psK x k++[(k:Int)]:=by
 unfold psK;rw [List.range_succ,List.filter_append,List.map_append,List.filter_cons_of_pos h];rfl
theorem psK_no {x:Bag} {k:Nat} (h:¬ x.has k=true):psK x (k+1)=psK x k:=by
 unfold psK;rw [List.range_succ,List.filter_append,List.map_append,List.filter_cons_of_neg h];simp
theorem psK_all {x:Bag} {k:Nat} (hk:k≤256) (h:InB 0 k x):psK x k=x.list:=by
 rw [x.list_eq]
 have key:∀ d,k+d≤256→psK x (k+d)=psK x k:=by
  intro d
  induction d with
  | zero=>exact fun _=>rfl
  | succ d ih=>exact fun hd=>(psK_no (k:=k+d) fun h2=>by have:=h (k+d) (by omega) h2;omega).trans (ih (by omega))
 have:=key (256 - k) (by omega)
 rw [show k+(256 - k)=256 by omega] at this
 exact this.symm
section
variable {on:List Bag} {β:Nat→Bag} {x:Bag} {a:Int} {k:Nat}
theorem hereK_yes (h:x.has k=true) (h2:a∈(onF on k).list):hereL on (psK x (k+1)) a=(hereL on (psK x k) a).with_ (k:Int):=by
 rw [psK_yes h];unfold hereL;rw [List.foldl_append];exact if_pos h2
theorem nextK_yes (h:x.has k=true) (h2:a∈(onF on k).list):nextL on β (psK x (k+1)) a=bun (nextL on β (psK x k) a) (β k):=by
 rw [psK_yes h];unfold nextL;rw [List.foldl_append];exact if_pos h2
theorem hereK_no (h:¬ (x.has k=true∧a∈(onF on k).list)):hereL on (psK x (k+1)) a=hereL on (psK x k) a:=by
 by_cases h1:x.has k=true
 ·rw [psK_yes h1];unfold hereL;rw [List.foldl_append];exact if_neg fun h2=>h ⟨h1,h2⟩
 ·rw [psK_no h1]
theorem nextK_no (h:¬ (x.has k=true∧a∈(onF on k).list)):nextL on β (psK x (k+1)) a=nextL on β (psK x k) a:=by
 by_cases h1:x.has k=true
 ·rw [psK_yes h1];unfold nextL;rw [List.foldl_append];exact if_neg fun h2=>h ⟨h1,h2⟩
 ·rw [psK_no h1]
end
theorem not_k {x y:Bag} {k:Nat} {a:Int} (hk:k < 256) (h:(decide (0≤(k:Int)∧(k:Int) < 256)&&x.has k&&(decide (0≤a∧a < 256)&&y.has a.toNat))=false):¬ (x.has k=true∧a∈y.list):=by
 rintro ⟨h1,h2⟩
 rw [has_mem,decide_eq_true h2,h1,decide_eq_true (by omega)] at h
 cases h
theorem nfaFits_h (s:List UInt8) (l:List Mn) (w_:List Int) (hs:s.length≤9223372036854775807):HPure Tryz.prog 4 [strV s,mnsV l,iListV w_] (boolV true):=by
 have hn:=net_cases s l hs
 refine hpure_of Tryz.func4 rfl kr _ _ _ rfl 113 rfl rfl (fun w F=>?_)
 refine srg fun N h1=>sa<|snl h1<|hw_seq fun Nh2 h2=>?_
 rcases hn with ⟨x,hx⟩ | ⟨e,hx,hne,hel,hmb⟩ | ⟨wd,on,β,p,e,V⟩
 ·skip
  refine hw_region<|sm<|sm ?_
  refine s0 (hop_call0 (xs:=[_,_]) (hx) ⟨rfl,⟨rfl,trivial⟩⟩ ⟨fe,⟨fe,trivial⟩⟩) ?_
  refine sm ?_
  refine s0 hex ?_
  refine s0 hex ?_
  refine s0 hex ?_
  refine s0 hex ?_
  refine sa<|sa<|sa<|sa<|snl h2<|hw_seq fun Nh3 h3=>srg fun N h4=>sm ?_
  refine s0 (hop_not rfl) ?_
  refine sm ?_
  refine gm 28 ?_
  refine stg 28 (fun hb=>hop_len_sl (T:=25) rfl (elOf_spec el_25).1 rfl) rfl rfl rfl rfl rfl ?_
  refine stg 28 (fun hb=>hop_gtr rfl rfl) rfl rfl rfl rfl rfl ?_
  refine hq_p 32 (hstep_or _ _ rfl rfl rfl) rfl rfl rfl ?_
  refine sm ?_
  refine gm 33 ?_
  refine gm 33 ?_
  refine stg (c:=true) (v:=boolV false) 33 (fun hb=>by cases hb) rfl rfl rfl rfl rfl ?_
  refine hq_p 37 (hstep_and _ _ rfl rfl rfl) rfl rfl rfl ?_
  refine nu ?_
  refine h4 _ ?_
  refine wc (fun hc0=>?_) (fun hc0=>?_)
  ·have hr0:=hc0;(try simp only [hcs,Int.reduceToNat] at hc0)
   refine srg fun N h5=>?_
   refine s0 (hop_call0 (xs:=[]) (live7_h) trivial trivial) ?_
   refine sa<|snl h5<|hw_ret<|hq_then_ret ?_
   refine hq_ret1 rfl (rval_tmp rfl) [] rfl pre0 ?_
   exact .imm _
  have hr0:=hc0;(try simp only [hcs,Int.reduceToNat] at hc0)
  exfalso;simp at hr0
 ·skip
  refine hw_region<|sm<|sm ?_
  refine s0 (hop_call0 (xs:=[_,_]) (hx) ⟨rfl,⟨rfl,trivial⟩⟩ ⟨fe,⟨fe,trivial⟩⟩) ?_
  refine sm ?_
  refine s0 hex ?_
  refine s0 hex ?_
  refine s0 hex ?_
  refine s0 hex ?_
  refine sa<|sa<|sa<|sa<|snl h2<|hw_seq fun Nh6 h6=>srg fun N h7=>sm ?_
  refine s0 (hop_not rfl) ?_
  refine sm ?_
  refine gm 28 ?_
  refine stg 28 (fun hb=>hop_len_sl (T:=25) rfl (elOf_spec el_25).1 rfl) rfl rfl rfl rfl rfl ?_
  refine stg 28 (fun hb=>hop_gtr rfl rfl) rfl rfl rfl rfl rfl ?_
  refine hq_p 32 (hstep_or _ _ rfl rfl rfl) rfl rfl rfl ?_
  refine sm ?_
  refine gm 33 ?_
  refine gm 33 ?_
  refine stg 33 (fun hb=>hop_call0 (xs:=[_,_]) (none_h l hmb e hel) ⟨rfl,⟨rfl,trivial⟩⟩ ⟨fe,⟨fe,trivial⟩⟩) rfl rfl rfl rfl rfl ?_
  refine hq_p 37 (hstep_or _ _ rfl rfl rfl) rfl rfl rfl ?_
  refine nu ?_
  refine h7 _ ?_
  refine wc (fun hc0=>?_) (fun hc0=>?_)
  ·have hr0:=hc0;(try simp only [hcs,Int.reduceToNat] at hc0)
   refine srg fun N h8=>?_
   refine s0 (hop_call0 (xs:=[]) (live7_h) trivial trivial) ?_
   refine sa<|snl h8<|hw_ret<|hq_then_ret ?_
   refine hq_ret1 rfl (rval_tmp rfl) [] rfl pre0 ?_
   exact .imm _
  have hr0:=hc0;(try simp only [hcs,Int.reduceToNat] at hc0)
  exfalso;simp [hne] at hr0
 ·skip
  refine hw_region<|sm<|sm ?_
  refine s0 (hop_call0 (xs:=[_,_]) (V.net) ⟨rfl,⟨rfl,trivial⟩⟩ ⟨fe,⟨fe,trivial⟩⟩) ?_
  refine sm ?_
  refine s0 hex ?_
  refine s0 hex ?_
  refine s0 hex ?_
  refine s0 hex ?_
  refine sa<|sa<|sa<|sa<|snl h2<|hw_seq fun Nh9 h9=>srg fun N h10=>sm ?_
  refine s0 (hop_not rfl) ?_
  refine sm ?_
  refine gm 28 ?_
  refine stg 28 (fun hb=>hop_len_sl (T:=25) rfl (elOf_spec el_25).1 rfl) rfl rfl rfl rfl rfl ?_
  refine stg 28 (fun hb=>hop_gtr rfl rfl) rfl rfl rfl rfl rfl ?_
  refine hq_p 32 (hstep_or _ _ rfl rfl rfl) rfl rfl rfl ?_
  refine sm ?_
  refine gm 33 ?_
  refine gm 33 ?_
  refine stg 33 (fun hb=>hop_call0 (xs:=[_,_]) (none_h l V.mnb e V.eln) ⟨rfl,⟨rfl,trivial⟩⟩ ⟨fe,⟨fe,trivial⟩⟩) rfl rfl rfl rfl rfl ?_
  refine hq_p 37 (hstep_or _ _ rfl rfl rfl) rfl rfl rfl ?_
  refine nu ?_
  refine h10 _ ?_
  refine wc (fun hc0=>?_) (fun hc0=>?_)
  ·have hr0:=hc0;(try simp only [hcs,Int.reduceToNat] at hc0)
   refine srg fun N h11=>?_
   refine s0 (hop_call0 (xs:=[]) (live7_h) trivial trivial) ?_
   refine sa<|snl h11<|hw_ret<|hq_then_ret ?_
   refine hq_ret1 rfl (rval_tmp rfl) [] rfl pre0 ?_
   exact .imm _
  have hr0:=hc0;(try simp only [hcs,Int.reduceToNat] at hc0)
  have hw16:w_.length≤16:=(by have h:=hc0;simp [V.none] at h;omega);have hw60:=V.w60;have hlen:=V.len
  refine hw_skip<|h9 _<|hw_seq fun Nh12 h12=>srg fun N h13=>sm ?_
  refine s0 (hop_neq rfl rfl) ?_
  refine snl h13 ?_
  refine wc (fun hc1=>?_) (fun hc1=>?_)
  ·have hr1:=hc1;(try simp only [hcs,Int.reduceToNat] at hc1)
   exfalso;simp at hr1
  have hr1:=hc1;(try simp only [hcs,Int.reduceToNat] at hc1)
  refine hw_skip<|h12 _<|srg fun N h14=>sm ?_
  refine s0 (hop_call0 (xs:=[_]) (nempty_h wd on β p) ⟨rfl,trivial⟩ ⟨fe,trivial⟩) ?_
  refine sa<|snl h14<|srg fun N h15=>sm ?_
  refine s0 (hop_call0 (xs:=[_]) (nfirst_h wd on β p) ⟨rfl,trivial⟩ ⟨fe,trivial⟩) ?_
  refine hm_1 12 (hop_alloc (id:=12) (sz:=4) zc_33 rfl rfl (nb rfl) (nb rfl)) rfl rfl pre0 rfl rfl (c':=1) rfl ?_
  refine sw (2) ty_33 ?_
  refine snl h15<|hw_seq fun Nh16 h16=>srg fun N h17=>sa<|snl h17<|hw_block ?_
  refine hw_loopc (α:=Nat×Bool×Bag) (fun x c=>⟨113,[(1,.v (mnsV l)),(2,.v (iListV w_)),(7,.v (netP wd on β p)),(8,.v (ptsV e)),(11,.v (boolV x.2.1)),(12,.v (.pt 12 0 0 0)),(13,.v (intV (x.1:Int)))],[(12,bgO 0 x.2.2)],c⟩) (fun x=>x.1≤w_.length∧x.2.2.ok∧InB 0 wd x.2.2∧goV on β p.ends x.2.2 x.2.1 (w_.drop x.1)=goV on β p.ends p.first p.empty w_) (fun x=>w_.length - x.1) ((0,p.empty,p.first)) (by exact ⟨Nat.zero_le _,V.pck.1,V.inF,rfl⟩) (hsub_of rfl (Nat.le_refl _) tsa (HpSub.cons rfl (osub_bag (by exact j4 rfl rfl rfl rfl)) HpSub.nil)) (fun x c hx NhL18 hL18=>?_)
  revert hx hL18;obtain ⟨i,way,now⟩:=x;intro hx hL18;dsimp only at hx hL18 ⊢
  obtain ⟨hi,hno,hni,hg⟩:=hx
  let k7:=c
  refine hw_seq fun Nh19 h19=>srg fun N h20=>sm<|sm ?_
  refine s0 (hnl el_25) ?_
  refine s0 hli ?_
  refine snl h20 ?_
  refine wc (fun hc2=>?_) (fun hc2=>?_)
  ·have hr2:=hc2;(try simp only [hcs,Int.reduceToNat] at hc2)
   have hiw:i < w_.length:=om
   refine hw_skip<|h19 _<|hw_seq fun Nh21 h21=>hw_block<|srg fun N h22=>?_
   refine s0 (hop_build (hs:=[]) st_33 rfl rfl trivial) ?_
   refine hm_1 14 (hop_alloc (id:=14) (sz:=4) zc_33 rfl rfl (nb rfl) (nb rfl)) rfl rfl pre0 rfl rfl (c':=c+1) rfl ?_
   refine sw (c+2) ty_33 ?_
   refine snl h22<|srg fun N h23=>?_
   refine s0 (hop_build (hs:=[]) st_33 rfl rfl trivial) ?_
   refine hm_1 15 (hop_alloc (id:=15) (sz:=4) zc_33 rfl rfl (nb rfl) (nb rfl)) rfl rfl pre0 rfl rfl (c':=c+3) rfl ?_
   refine sw (c+4) ty_33 ?_
   refine snl h23<|hw_seq fun Nh24 h24=>srg fun N h25=>sa<|snl h25<|hw_block ?_
   refine hw_loopc (α:=Nat) (fun x c=>⟨113,[(1,.v (mnsV l)),(2,.v (iListV w_)),(7,.v (netP wd on β p)),(8,.v (ptsV e)),(12,.v (.pt 12 0 0 0)),(13,.v (intV (i:Int))),(14,.v (.pt 14 k7 0 0)),(15,.v (.pt 15 (k7+2) 0 0)),(16,.v (intV (x:Int)))],[(12,bgO 0 now),(14,bgO k7 (hereL on (psK now x) (w_.getD i 0))),(15,bgO (k7+2) (nextL on β (psK now x) (w_.getD i 0)))],c⟩) (fun x=>x≤wd) (fun x=>wd - x) (0) om (hsub_of rfl (Nat.le_refl _) tsa (hsr rfl (HpSub.cons rfl (osub_bag (by exact j4 rfl rfl rfl rfl)) (HpSub.cons rfl (osub_bag (by exact j4 rfl rfl rfl rfl)) HpSub.nil)))) (fun k c hx NhL26 hL26=>?_)
   (try dsimp only at hx hL26 ⊢)
   have hko:=nextL_ok (a:=w_.getD i 0) (on:=on) V.bek (psK now k) Bag.zero Bag.zero_ok;have hho:=here_ok (a:=w_.getD i 0) (on:=on) (psK now k) Bag.zero Bag.zero_ok
   refine hw_seq fun Nh27 h27=>srg fun N h28=>sm<|sm ?_
   refine s0 (hop_call0 (xs:=[_]) (nplaces_h wd on β p om) ⟨rfl,trivial⟩ ⟨fe,trivial⟩) ?_
   refine s0 hli ?_
   refine snl h28 ?_
   refine wc (fun hc3=>?_) (fun hc3=>?_)
   ·have hr3:=hc3;(try simp only [hcs,Int.reduceToNat] at hc3)
    have hkw:k < wd:=om
    refine hw_skip<|h27 _<|hw_seq fun Nh29 h29=>hw_block<|hw_seq fun Nh30 h30=>hd_start ?_
    refine dl 1 ty_33 ?_
    refine dm 2 ?_
    refine d0 3 (hop_call0 (xs:=[_,_]) (has_h now hno (k:Int)) ⟨rfl,⟨rfl,trivial⟩⟩ ⟨fe,⟨fe,trivial⟩⟩) ?_
    refine dm 4 ?_
    refine hd_g 63 3 62 true _ (fun hb=>hop_move rfl) rfl rfl rfl rfl pre0 rfl rfl rfl (k':=5) rfl ?_
    refine hd_g 64 3 62 true _ (fun hb=>hop_move rfl) rfl rfl rfl rfl pre0 rfl rfl rfl (k':=6) rfl ?_
    refine hd_g 65 3 62 true _ (fun hb=>HOp.val (v':=bagH (onF on k)) (hop_call0 (xs:=[_,_]) (non_h wd on β p (k:Int) (by omega)) ⟨rfl,⟨rfl,trivial⟩⟩ ⟨(Fz.eq rfl),⟨(Fz.eq rfl),trivial⟩⟩) ((by rw [if_pos (by omega)];rfl))) rfl rfl rfl rfl pre0 rfl rfl rfl (k':=7) rfl ?_
    refine hd_g 66 3 62 true _ (fun hb=>hop_move rfl) rfl rfl rfl rfl pre0 rfl rfl rfl (k':=8) rfl ?_
    refine hd_g 67 3 62 true _ (fun hb=>hop_move rfl) rfl rfl rfl rfl pre0 rfl rfl rfl (k':=9) rfl ?_
    refine hd_g 68 3 62 true _ (fun hb=>hop_ia_sl el_25 rfl rfl (by simp at hb;exact omx) (by simp at hb;exact omx) (nb rfl)) rfl rfl rfl rfl pre0 rfl rfl rfl (k':=10) rfl ?_
    refine hd_g 69 3 62 true _ (fun hb=>hop_load_fp ty_3 rfl (nb rfl) rq) rfl rfl rfl rfl pre0 rfl rfl rfl (k':=11) rfl ?_
    refine hd_g 70 3 62 true _ (fun hb=>hop_call0 (xs:=[_,_]) (has_h (onF on k) (V.onk k) (w_.getD i 0)) ⟨rfl,⟨rfl,trivial⟩⟩ ⟨fe,⟨fe,trivial⟩⟩) rfl rfl rfl rfl pre0 rfl rfl rfl (k':=12) rfl ?_
    refine hd_p 71 (hstep_and _ _ rfl rfl rfl) rfl rfl rfl (k':=13) rfl ?_
    refine hd_nilU kr kr (by rfl) (by simp only [dropUn,slots];exact rfl) (c':=c+13) rfl ?_
    refine h30 _ ?_
    refine wc (fun hc4=>?_) (fun hc4=>?_)
    ·have hr4:=hc4;(try simp only [hcs,Int.reduceToNat] at hc4)
     refine srg fun N h31=>?_
     refine sl ty_33 ?_
     refine sm ?_
     refine s0 (hop_call0 (xs:=[_,_]) (with_h (hereL on (psK now k) (w_.getD i 0)) hho (k:Int)) ⟨rfl,⟨rfl,trivial⟩⟩ ⟨fe,⟨fe,trivial⟩⟩) ?_
     refine sw (c+14) ty_33 ?_
     refine snl h31<|hd_start ?_
     refine dl 1 ty_33 ?_
     refine dm 2 ?_
     refine dm 3 ?_
     refine d0 4 (HOp.val (v':=bagH (β k)) (hop_call0 (xs:=[_,_]) (nbehind_h wd on β p (k:Int) (by omega)) ⟨rfl,⟨rfl,trivial⟩⟩ ⟨(Fz.eq rfl),⟨(Fz.eq rfl),trivial⟩⟩) ((by rw [if_pos (by omega)];rfl))) ?_
     refine d0 5 (hop_call0 (xs:=[_,_]) (or_h (nextL on β (psK now k) (w_.getD i 0)) (β k) hko (V.bek k)) ⟨rfl,⟨rfl,trivial⟩⟩ ⟨fe,⟨fe,trivial⟩⟩) ?_
     refine hd_s1 (hol_storeW ty_33 rfl rfl rfl rfl) rfl rfl (pre1 rfl) (k':=6) rfl ?_
     refine hd_nil kr kr (c':=c+20) rfl ?_
     refine hq_block<|h29 _<|hw_region<|sm ?_
     refine s0 hai ?_
     refine sa<|hseq_nil ?_
     exact hL26 (k+1) _ _ (by (try dsimp only);omega) (by (try dsimp only);omega) (hsub_of rfl (Nat.le_refl _) tsa (hsr rfl (HpSub.cons rfl (osub_bag (by rw [hereK_yes hc4.1.2 (has_yes hc4.2)];exact j4 rfl rfl rfl rfl)) (HpSub.cons rfl (osub_bag (by rw [nextK_yes hc4.1.2 (has_yes hc4.2)];exact j4 rfl rfl rfl rfl)) HpSub.nil))))
    have hr4:=hc4;(try simp only [hcs,Int.reduceToNat] at hc4)
    refine hw_skip<|hq_block<|h29 _<|hw_region<|sm ?_
    refine s0 hai ?_
    refine sa<|hseq_nil ?_
    exact hL26 (k+1) _ _ (by (try dsimp only);omega) (by (try dsimp only);omega) (hsub_of rfl (Nat.le_refl _) tsa (hsr rfl (HpSub.cons rfl (osub_bag (by rw [hereK_no (not_k om hc4)];exact j4 rfl rfl rfl rfl)) (HpSub.cons rfl (osub_bag (by rw [nextK_no (not_k om hc4)];exact j4 rfl rfl rfl rfl)) HpSub.nil))))
   have hr3:=hc3;(try simp only [hcs,Int.reduceToNat] at hc3)
   have hkw:k=wd:=om;rw [hkw,psK_all om hni];have hho:=here_ok (a:=w_.getD i 0) (on:=on) now.list Bag.zero Bag.zero_ok
   refine hw_exit ?_
   refine hq_then_exit<|hq_then_exit<|hq_block_here<|h24 _<|hw_seq fun Nh32 h32=>hd_start ?_
   refine dl 1 ty_33 ?_
   refine dm 2 ?_
   refine d0 3 (hop_call0 (xs:=[_]) (nends_h wd on β p) ⟨rfl,trivial⟩ ⟨fe,trivial⟩) ?_
   refine d0 4 (hop_call0 (xs:=[_,_]) (and_h (hereL on now.list (w_.getD i 0)) p.ends hho V.pck.2) ⟨rfl,⟨rfl,trivial⟩⟩ ⟨fe,⟨fe,trivial⟩⟩) ?_
   refine d0 5 (hop_build (hs:=[]) st_33 rfl rfl trivial) ?_
   refine d0 6 (hop_neq_bag ((hereL on now.list (w_.getD i 0)).mix andF p.ends 4) Bag.zero rfl rfl rfl (by exact j4 rfl rfl rfl rfl) (by exact j4 rfl rfl rfl rfl)) ?_
   refine d0 7 (hop_assign rfl) ?_
   refine hd_nil kr kr (c':=c+7) rfl ?_
   refine h32 _<|hw_region ?_
   refine sl ty_33 ?_
   refine sw (c+8) ty_33 ?_
   refine hseq_nil<|hq_block<|h21 _<|hw_region<|sm ?_
   refine s0 hai ?_
   refine sa<|hseq_nil ?_
   exact hL18 ((i+1,lastL on p.ends now.list (w_.getD i 0),nextL on β now.list (w_.getD i 0))) _ _ (by (try dsimp only);exact ⟨by omega,nextL_ok V.bek _ _ Bag.zero_ok,nextL_in V.inβ _ _ (inB_zero _ _),by rw [←goV_drop hiw];exact hg⟩) (by (try dsimp only);omega) (hsub_of rfl (Nat.le_refl _) (tsr rfl (tsr rfl (tsr rfl (tsr rfl (TmSub.cons rfl (by rw [last_here (list_in now) V.pck.2];exact .refl _) tsa))))) (HpSub.cons rfl (osub_bag (by exact j4 rfl rfl rfl rfl)) HpSub.nil))
  have hr2:=hc2;(try simp only [hcs,Int.reduceToNat] at hc2)
  have hie:i=w_.length:=om
  refine hw_exit ?_
  refine hq_then_exit<|hq_then_exit<|hq_block_here<|h16 _<|srg fun N h33=>sm<|sm ?_
  refine s0 (hop_call0 (xs:=[_,_]) (nfits_h wd on β p om V.onk V.pck V.bek V.inβ V.inF w_ om) ⟨rfl,⟨rfl,trivial⟩⟩ ⟨fe,⟨fe,trivial⟩⟩) ?_
  refine sa<|snl h33<|srg fun N h34=>sm<|sm<|sm<|sm ?_
  refine s0 (hop_call0 (xs:=[_,_,_]) (V.fits w_ om) ⟨rfl,⟨rfl,⟨rfl,trivial⟩⟩⟩ ⟨fe,⟨fe,⟨fe,trivial⟩⟩⟩) ?_
  refine s0 (hop_beq (fun w=>by kernel_rfl) rfl rfl) ?_
  refine sm ?_
  refine gm 96 ?_
  refine gm 96 ?_
  refine stg 96 (fun hb=>hop_beq (fun w=>by kernel_rfl) rfl rfl) rfl rfl rfl rfl rfl ?_
  refine hq_p 100 (hstep_and _ _ rfl rfl rfl) rfl rfl rfl ?_
  refine sm ?_
  refine gm 101 ?_
  refine gm 101 ?_
  refine gm 101 ?_
  refine stg 101 (fun hb=>hop_call0 (xs:=[_,_]) (V.doc) ⟨rfl,⟨rfl,trivial⟩⟩ ⟨fe,⟨fe,trivial⟩⟩) rfl rfl rfl rfl rfl ?_
  refine gm 101 ?_
  refine stg 101 (fun hb=>hop_call0 (xs:=[_,_]) (goes_h wd on β p om V.pck V.bek V.inβ V.inF w_ om) ⟨rfl,⟨rfl,trivial⟩⟩ ⟨fe,⟨fe,trivial⟩⟩) rfl rfl rfl rfl rfl ?_
  refine stg 101 (fun hb=>hop_beq (fun w=>by kernel_rfl) rfl rfl) rfl rfl rfl rfl rfl ?_
  refine hq_p 109 (hstep_and _ _ rfl rfl rfl) rfl rfl rfl ?_
  refine sm ?_
  refine stg 110 (fun hb=>hop_call0 (xs:=[]) (live7_h) trivial trivial) rfl rfl rfl rfl rfl ?_
  refine hq_p 112 (hstep_and _ _ rfl rfl rfl) rfl rfl rfl ?_
  refine sa ?_
  refine nu ?_
  refine h34 _<|hw_ret ?_
  refine hq_ret1 rfl (rval_tmp rfl) [] rfl pre0 ?_
  exact fz_bool (by rw [hie,List.drop_length] at hg;rw [show way=goV on β p.ends p.first p.empty w_ from hg];simp)
end Go.Proofs.YtldjnmljnlhaaaaGreatDoor
namespace Go.Proofs.YtldjnmljnlhaaaaGreatDoor
set_option linter.unusedSimpArgs false
set_option linter.unusedVariables false
open Go.ChangeShapes Go.WideShapes Go.ChangeAt Go.RowKit Go.Deep
section
variable {H:Type} {encH:TypeId×Value→H} {P:Program} {w:World} {base:Nat} {spare:Nat→Bool} {held:Bool}
theorem open_sl {α:Type} {t e:TypeId} {fuel:Nat} {A:Option Addr} {n c:Nat} {x:DataW H×List MemPlace} (ht:P.underlying t=some (.slice e)) (size:Nat) (hC:P.cellsOf e=size) (hpos:0 < size)
    (enc:α→List Value) (henc:∀ a,(enc a).length=size) (ok:α→Prop)
    (hel:∀ (m:Nat) (cs:List Value) (y:DataW H×List MemPlace),DataW.trod encH P w base spare held m e cs=some y→∃ a:α,cs=enc a∧ok a)
    (hf:DataW.trod encH P w base spare held fuel t [.slice A n c]=some x) :
    ∃ l:List α,l.length=n∧Sl w w.heap.size size enc A l∧n≤c∧c≤9223372036854775807∧∀ a∈l,ok a:=by
  rcases open_slice ht hf with ⟨h0,_⟩ | ⟨a,len,cap,m,k,D,Pl,hcs,hb,hl,hm,hmm,hx,hi⟩
  · injection h0 with h0 _
    injection h0 with h1 h2 h3
    subst h1;subst h2;subst h3
    exact ⟨[],rfl,⟨henc,Reads.none_⟩,by omega,by omega,by simp⟩
  · injection hcs with h0 _
    injection h0 with h1 h2 h3
    subst h1;subst h2;subst h3
    have hnm:n≤m:=by rw [hmm];split <;> omega
    have each:∀ k,k≤n→∃ l:List α,l.length=k∧(∀ i (hi:i < l.length),w.cells? base (a.add (i * size)) size=some (enc l[i]))∧∀ y∈l,ok y:=by
      intro k
      induction k with
      | zero=>intro _;exact ⟨[],rfl,fun i hi=>by simp at hi,by simp⟩
      | succ k ih =>
        intro hk
        obtain ⟨l,hl1,hl2,hl3⟩:=ih (by omega)
        obtain ⟨cs',h1,h2⟩:=hi k (by omega)
        rw [hC] at h1
        obtain ⟨a',rfl,hok⟩:=hel _ _ _ h2
        refine ⟨l++[a'],by simp [hl1],fun i hi=>?_,fun y hy=>?_⟩
        · by_cases hik:i < l.length
          · rw [List.getElem_append_left hik];exact hl2 i hik
          · have:i=k:=by simp at hi;omega
            subst this
            simp [hl1,h1]
        · rcases List.mem_append.1 hy with hy | hy
          · exact hl3 y hy
          · simp at hy;subst hy;exact hok
    obtain ⟨l,hl1,hl2,hl3⟩:=each n (Nat.le_refl _)
    refine ⟨l,hl1,⟨henc,?_,fun hn=>?_⟩,hl,by unfold maxLen at hm;omega,hl3⟩
    · have:∀ m:List α,(m.flatMap enc).length=m.length * size:=by
        intro m
        induction m with
        | nil=>simp
        | cons x m ih=>simp [List.flatMap_cons,ih,henc,Nat.add_mul,Nat.add_comm]
      exact this l
    · refine ⟨a,rfl,?_,fun j u hu=>?_⟩
      · have h0:=hl2 0 hn
        have:=World.cells?_block h0 hpos
        rwa [block_of_add] at this
      · have hfl:(l.flatMap enc).length=l.length * size:=by
          have:∀ m:List α,(m.flatMap enc).length=m.length * size:=by
            intro m
            induction m with
            | nil=>simp
            | cons x m ih=>simp [List.flatMap_cons,ih,henc,Nat.add_mul,Nat.add_comm]
          exact this l
        have hj:j < l.length * size:=by
          rcases Nat.lt_or_ge j (l.flatMap enc).length with hlt | hge
          · rw [hfl] at hlt;exact hlt
          · rw [List.getElem?_eq_none hge] at hu;cases hu
        have hjd:j / size < l.length:=(Nat.div_lt_iff_lt_mul hpos).2 hj
        have hjm:j % size < size:=Nat.mod_lt _ hpos
        have e1:j=j / size * size+j % size:=by rw [Nat.mul_comm];exact (Nat.div_add_mod j size).symm
        rw [e1] at hu ⊢
        rw [flatMap_at henc _ _ _ hjd hjm] at hu
        have:=(World.cells?_some (hl2 _ hjd)).2.2 (j % size) hjm
        rw [add_of_add] at this
        rw [this,hu]
def okInt (x:Int):Prop:=(Lit.int .i64 x).wf=true
theorem el_int {e:TypeId} (he:P.underlying e=some (.int .i64)) (m:Nat) (cs:List Value) (y:DataW H×List MemPlace) (h:DataW.trod encH P w base spare held m e cs=some y):∃ a:Int,cs=intC a∧okInt a:=by
 obtain ⟨b,rfl,_,hw⟩:=DataW.trod_int he h
 exact ⟨b,rfl,hw⟩
end
structure PtI where
 v:Pt
 A:Option Addr
 n:Nat
 c:Nat
def PtI.cells (x:PtI):List Value:=[.int .i64 x.v.kind,.int .i64 x.v.low,.int .i64 x.v.high,.string ⟨x.v.name.toArray⟩,.slice x.A x.n x.c]
def PtI.none:PtI:=⟨default,.none,0,0⟩
theorem PtI.cells_length (x:PtI):x.cells.length=5:=by simp [PtI.cells]
def PtI.inOk (w:World) (x:PtI):Prop:=x.v.kids.length=x.n∧Sl w w.heap.size 1 intC x.A x.v.kids∧x.n≤x.c∧x.c≤9223372036854775807
section
variable {H:Type} {encH:TypeId×Value→H} {w:World} {base:Nat} {spare:Nat→Bool} {held:Bool}
theorem slice_form {P:Program} {t e:TypeId} (ht:P.underlying t=some (.slice e)) {fuel:Nat} {v:Value} {x:DataW H×List MemPlace} (hf:DataW.trod encH P w base spare held fuel t [v]=some x):∃ A n c,v=.slice A n c:=by
 rcases open_slice ht hf with ⟨h0,_⟩ | ⟨a,len,cap,m,k,D,Pl,hcs,_⟩
 ·injection h0 with h0 _;exact ⟨_,_,_,h0⟩
 ·injection hcs with h0 _;exact ⟨_,_,_,h0⟩
end
theorem intC_one (x:Int):∀ u∈intC x,u.oneCell'=true:=by
 intro u hu
 simp only [intC,List.mem_cons,List.not_mem_nil,or_false] at hu
 subst hu;rfl
theorem rep_kids {w:World} {B:Nat} {A:Option Addr} {c:Nat} {l:List Int} (h:Sl w B 1 intC A l) (hc:l.length≤c) (hm:c≤maxLen):Rep w (Env.just (allF w)) (.slice A l.length c) (kidsV l) :=
 rep_sl 1 (by omega) intC intC_one (fun x _=>intV x) 0 l hc hm h (fun i j _ hj=>by
  match j,hj with
  | 0,_=>exact .imm _)
structure MnI where
 v:Mn
 A:Option Addr
 n:Nat
 c:Nat
def MnI.cells (x:MnI):List Value:=[.string ⟨x.v.name.toArray⟩,.slice x.A x.n x.c]
def MnI.none:MnI:=⟨default,.none,0,0⟩
theorem MnI.cells_length (x:MnI):x.cells.length=2:=by simp [MnI.cells]
def MnI.inOk (w:World) (x:MnI):Prop:=x.v.on.length=x.n∧Sl w w.heap.size 1 intC x.A x.v.on∧x.n≤x.c∧x.c≤9223372036854775807
theorem mni_one (x:MnI):∀ u∈x.cells,u.oneCell'=true:=by
 intro u hu
 simp only [MnI.cells,List.mem_cons,List.not_mem_nil,or_false] at hu
 rcases hu with rfl | rfl <;> rfl
section
variable {H:Type} {encH:TypeId×Value→H} {w:World} {base:Nat} {spare:Nat→Bool} {held:Bool}
set_option maxRecDepth 100000 in
theorem el_mn (m:Nat) (cs:List Value) (y:DataW H×List MemPlace) (h:DataW.trod encH Tryz.prog w base spare held m 127 cs=some y):∃ t:MnI,cs=t.cells∧t.inOk w:=by
  obtain ⟨xs,k,_,_,hlen,hxl,hx⟩:=DataW.trod_struct Tryz.underlying127 h
  have hC:Tryz.prog.cellsOf 127=2:=by kernel_rfl
  have hS:Tryz.prog.cellsOf 9=1:=by kernel_rfl
  have hK:Tryz.prog.cellsOf 25=1:=by kernel_rfl
  rw [hC] at hlen
  match cs,hlen,xs,hxl with
  | [c3, c4], _, [x3, x4], _ =>
    have f3:DataW.trod encH Tryz.prog w base spare held k 9 (([c3,c4].drop 0).take (Tryz.prog.cellsOf 9))=[x3,x4][0]?:=hx 0 _ rfl
    have f4:DataW.trod encH Tryz.prog w base spare held k 25 (([c3,c4].drop 1).take (Tryz.prog.cellsOf 25))=[x3,x4][1]?:=hx 1 _ rfl
    rw [hS] at f3
    rw [hK] at f4
    obtain ⟨b3,h3,_,_⟩:=DataW.trod_string Tryz.underlying9 f3
    simp at h3
    subst h3
    simp only [List.drop_succ_cons,List.drop_zero,List.take_succ_cons,List.take_zero] at f4
    obtain ⟨A,n,c,rfl⟩:=slice_form Tryz.underlying25 f4
    obtain ⟨l,e,s,o,m',_⟩:=open_sl Tryz.underlying25 1 (by kernel_rfl) (by omega) intC (fun a=>by simp [intC]) okInt (el_int Tryz.underlying3) f4
    exact ⟨⟨⟨b3.data.toList,l⟩,A,n,c⟩,rfl,e,s,o,m'⟩
end
theorem rep_mns {w:World} {B:Nat} {A:Option Addr} {c:Nat} {l:List MnI} (h:Sl w B 2 MnI.cells A l) (hc:l.length≤c) (hm:c≤maxLen) (hok:∀ x∈l,x.inOk w):Rep w (Env.just (allF w)) (.slice A l.length c) (mnsV (l.map (·.v))):=by
 have key:=rep_sl (w:=w) 2 (by omega) MnI.cells mni_one (fun x=>mnF x.v) MnI.none l hc hm h (fun i j hi hj=>by
  have hg:l.getD i MnI.none=l[i]:=by rw [List.getD_eq_getElem?_getD,List.getElem?_eq_getElem hi];rfl
  rw [hg]
  obtain ⟨e,s,o,m⟩:=hok _ (List.getElem_mem hi)
  generalize l[i]=x at e s o m
  obtain ⟨v,A',n',c'⟩:=x
  simp only at e s o m
  subst e
  match j,hj with
  | 0,_=>exact .imm _
  | 1,_=>exact rep_kids s o (by unfold maxLen;omega))
 have e:mnsV (l.map (·.v))=.sl 2 l.length (fun i=>mnF (l.getD i MnI.none).v):=by
  show HV.sl 2 (l.map (·.v)).length (fun i=>mnF ((l.map (·.v)).getD i default))=_
  rw [List.length_map]
  congr 1
  funext i
  show mnF ((l.map (·.v)).getD i default)=_
  congr 1
  rw [List.getD_eq_getElem?_getD,List.getD_eq_getElem?_getD,List.getElem?_map]
  cases l[i]? <;> rfl
 rw [e];exact key
theorem NfaFits_walk (W:World) (hL:LibW W) (s:ByteArray) (hs:s.size≤maxLen) (a:Option Addr) (n c:Nat) (l:List MnI) (hn:l.length=n) (sl:Sl W W.heap.size 2 MnI.cells a l) (hc:n≤c) (hm:c≤9223372036854775807) (hok:∀ x∈l,x.inOk W)
  (a2:Option Addr) (n2 c2:Nat) (l2:List Int) (hn2:l2.length=n2) (sl2:Sl W W.heap.size 1 intC a2 l2) (hc2:n2≤c2) (hm2:c2≤9223372036854775807) (hok2:∀ x∈l2,okInt x) :
  Calls Tryz.prog 4 #[.string s,.slice a n c,.slice a2 n2 c2] W fun e w'=>e=.returned (.bool true)∧Below W.heap.size W w':=by
 subst hn;subst hn2
 have hs':s.data.toList.length≤9223372036854775807:=by have:s.size=s.data.toList.length:=rfl;rw [←this];unfold maxLen at hs;omega
 exact law_walk (nfaFits_h s.data.toList (l.map (·.v)) l2 hs') W [.string s,.slice a l.length c,.slice a2 l2.length c2] ⟨.imm _,rep_mns sl hc (by unfold maxLen;omega) hok,rep_kids sl2 hc2 (by unfold maxLen;omega),trivial⟩ hL
end Go.Proofs.YtldjnmljnlhaaaaGreatDoor
namespace Go.Proofs.YtldjnmljnlhaaaaGreatDoor
set_option linter.unusedSimpArgs false
set_option linter.unusedVariables false
set_option maxRecDepth 100000
open Go.RowKit
theorem laid_one {W:World} {l:List (String×DataW Unit)} (h:laidMetH Tryz.prog l W) (hl:(l.all fun x=>x.2.handleName?.isNone)=true) (n:String) (d:DataW Unit) (hf:l.filter (fun x=>x.1 == n)=[(n,d)]):laidMet Tryz.prog [(n,d)] W:=by
 rw [MakeChecks.laidMetH_plain _ _ _ hl] at h
 have:=laidMet.filter (fun x=>x.1 == n) h
 rwa [hf] at this
theorem iface_one {W:World} {n:String} {name:String} {d:DataW Unit} {g:Nat} {t:TypeId} {ms:Array (String×TypeId)} (hg:Tryz.prog.globalNamed n=some g) (hty:(Tryz.prog.globals[g]?).map (·.type)=some t) (ht:Tryz.prog.underlying t=some (.interface ms))
  (h:laidMet Tryz.prog [(n,.iface name d)] W):∃ tp p,W.var? Tryz.prog n=some #[.iface tp p]:=by
 obtain ⟨ps,⟨g',t',cs,fuel,p,q,hg',ht',hvar,hd,_,_⟩,_⟩:=h
 obtain rfl:=Option.some.inj (hg.symm.trans hg')
 obtain rfl:=Option.some.inj (hty.symm.trans ht')
 obtain ⟨f1,u,v,hc,_⟩:=iface_of_trod ht hd
 refine ⟨u,v,?_⟩
 rw [hvar]
 congr 1
 apply Array.ext'
 exact hc
theorem handed_shaped {H:Type} {enc:TypeId×Value→H} {a:Assume} {C:Checked} {os:Os} {f:FuncId} {fn:Func} {s:ChangeSpec} {conds:List PathCond} {apart fresh handsOn again:Bool} {X:World→Array Value→Prop}
  (hX:∀ (w w':World) (args:Array Value),w.heap=w'.heap→X w args→X w' args)
  (own:ownKnob C.prog.godebug=none) (started:os.Started) (noInit:C.prog.inits.idxOf? f=none) (hfn:C.prog.funcs[f]?=some fn)
  (wit:∃ (w:World) (tape:Tape) (i:Input),w.os=os∧(w.forCall tape i).Shaped C.prog∧i.vars=[]∧Input.okWide C.prog (w.forCall tape i) .any w.heap.size f i ∧
   ((s.pre enc C.prog fn conds apart (w.forCall tape i).memory i.args∧X (w.forCall tape i).memory i.args)∧sizedMet enc C.prog fn (OpenSpec.ofChange s) apart (w.forCall tape i).memory i.args)∧a.holds C.prog (lone (Frame.enter C.prog f i.args .normal) [] (w.forCall tape i)))
  (con:∀ (W:World) (base:Nat) (args:Array Value) (ds gs:List (DataW H)) (before:List MemPlace),
   (∀ (j:Nat) t v,fn.params[j]?=some t→args[j]?=some v→Value.okWide C.prog W .any base t v) →
   DataW.Whole enc C.prog fn.params.toList s.vars apart W args.toList ds gs before →
   conds.all (PathCond.test C.prog ⟨fn.params.toList,ds,s.plain.varTypes C.prog,gs⟩)=true→X W args→W.ShapedOpen C.prog →
   Calls C.prog f args W fun e W'=>∃ v,e=.returned v∧s.post enc C.prog fn apart fresh handsOn again W args v W') :
  ReturnsInHanded a C os f .any (fun w args=>(s.pre enc C.prog fn conds apart w args∧X w args)∧sizedMet enc C.prog fn (OpenSpec.ofChange s) apart w args) (s.post enc C.prog fn apart fresh handsOn again):=by
 refine returnsInHanded_of_calls own started noInit wit fun w tape i _ hsh _ hok hpre _=>?_
 obtain ⟨_,_,_,fn',hfn',_,_,_,_,hval⟩:=hok
 obtain rfl:fn'=fn:=Option.some.inj (hfn'.symm.trans hfn)
 obtain ⟨⟨⟨ds,gs,before,hw,hc⟩,hx⟩,_⟩:=hpre
 refine (con (w.forCall tape i) w.heap.size i.args ds gs before hval (DataW.Whole.of_heap (w':=w.forCall tape i) (by rfl) hw) hc (hX _ _ _ (by rfl) hx) hsh).mono fun e W' ⟨v,he,hp⟩=>?_
 subst he
 exact ChangeSpec.post_blind hp
theorem max_of {W:World} (hs:W.ShapedOpen Tryz.prog):∃ m,W.cell? ⟨1,0,none⟩=some (.int .i64 m) :=
 cell_of_shapedOpen_int (zero:=#[.int .i64 0]) (t:=3) (k:=.i64) hs (of_decide_eq_true (by kernel_rfl)) (by kernel_rfl) rfl (by kernel_rfl) (by kernel_rfl) Tryz.underlying3
theorem libW_of {W:World} {l:List (String×DataW Unit)} (hs:W.ShapedOpen Tryz.prog) (h:laidMetH Tryz.prog l W) (hl:(l.all fun x=>x.2.handleName?.isNone)=true)
  (h1:l.filter (fun x=>x.1 == "internal/strconv.uint64pow10")=[("internal/strconv.uint64pow10", Rows.laid_internal_strconv_uint64pow10)])
  (h2:l.filter (fun x=>x.1 == "strconv.ErrSyntax")=[("strconv.ErrSyntax", Rows.laid_strconv_ErrSyntax)])
  (h3:l.filter (fun x=>x.1 == "strconv.ErrRange")=[("strconv.ErrRange", Rows.laid_strconv_ErrRange)])
  (h4:l.filter (fun x=>x.1 == "math/bits.deBruijn64tab")=[("math/bits.deBruijn64tab", Rows.laid_math_bits_deBruijn64tab)]):LibW W:=by
 have t:=laid_one h hl _ _ h1
 have a:=laid_one h hl _ _ h2
 have b:=laid_one h hl _ _ h3
 have t4:=laid_one h hl _ _ h4
 have t4':Lib.TabIs Tryz.prog W "math/bits.deBruijn64tab" .u8 (Lib.deBruijn64tab.map (fun n:Nat=>(n:Int))) :=
  Lib.tabIs_of_head (zs:=Lib.deBruijn64tab.map (fun n:Nat=>(n:Int))) (k:=.u8) (g:=0) (t:=152) (e:=5) (n:=64) (by kernel_rfl) (by kernel_rfl) Tryz.underlying152 Tryz.underlying5 (by kernel_rfl) (by kernel_rfl) t4
 have t':Lib.TabIs Tryz.prog W "internal/strconv.uint64pow10" .u64 Lib.pow10Tab :=
  Lib.tabIs_of_head (zs:=Lib.pow10Tab) (k:=.u64) (g:=4) (t:=193) (e:=30) (n:=20) (by kernel_rfl) (by kernel_rfl) Tryz.underlying193 Tryz.underlying30 (by kernel_rfl) (by kernel_rfl) t
 have a':=iface_one (g:=2) (t:=164) (by kernel_rfl) (by kernel_rfl) Tryz.underlying164 a
 have b':=iface_one (g:=3) (t:=164) (by kernel_rfl) (by kernel_rfl) Tryz.underlying164 b
 have lt:∀ {n:String} {g:Nat} {x:Array Value},Tryz.prog.globalNamed n=some g→W.var? Tryz.prog n=some x→g < W.heap.size:=by
  intro n g x hg hv
  unfold World.var? at hv
  rw [hg] at hv
  simp only [Option.bind_some] at hv
  rcases Nat.lt_or_ge g W.heap.size with h | h
  ·exact h
  ·rw [Array.getElem?_eq_none h] at hv;cases hv
 have m':=max_of hs
 refine ⟨fun k hk=>?_,fun _=>t',fun _=>a',fun _=>b',fun g hg=>by
  obtain rfl:=Option.some.inj ((show Tryz.prog.globalNamed "internal/bytealg.MaxLen" = some 1 by kernel_rfl).symm.trans hg)
  exact m',fun _=>t4'⟩
 obtain ⟨n,hn,hg⟩:=hk
 simp only [libNames,List.mem_cons,List.not_mem_nil,or_false] at hn
 rcases hn with rfl | rfl | rfl | rfl | rfl
 ·exact lt hg t'
 ·obtain ⟨_,_,a'⟩:=a';exact lt hg a'
 ·obtain ⟨_,_,b'⟩:=b';exact lt hg b'
 ·obtain rfl:=Option.some.inj ((show Tryz.prog.globalNamed "internal/bytealg.MaxLen" = some 1 by kernel_rfl).symm.trans hg)
  obtain ⟨m,hm⟩:=m'
  exact World.block_lt_of_cell? W _ hm
 ·exact lt hg t4'
theorem libW_zf {W:World} (hs:W.ShapedOpen Tryz.prog) (h:laidMetH Tryz.prog Rows.nfaFitsRow.laid W):LibW W:=libW_of hs h (by kernel_rfl) (by kernel_rfl) (by kernel_rfl) (by kernel_rfl) (by kernel_rfl)
end Go.Proofs.YtldjnmljnlhaaaaGreatDoor
