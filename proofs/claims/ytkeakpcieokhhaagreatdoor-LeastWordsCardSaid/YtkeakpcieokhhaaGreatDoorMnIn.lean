/-
  DfaStates, DfaRuns: the chapter's example, the tables of a text.
-/
import Derived.Test.YtkeakpcieokhhaaGreatDoorDf10
import Derived.Test.YtkeakpcieokhhaaGreatDoorNc3
import Derived.Lib.Small
import Derived.Test.YtkeakpcieokhhaaGreatDoorHc
import Derived.Test.YtkeakpcieokhhaaGreatDoorHq
import Derived.Test.YtkeakpcieokhhaaGreatDoorChecked
import Derived.ProofKit
import Derived.OpenShut
import Derived.ChangeOld
import Derived.Deep.Slices
import Derived.Laws.StructEq
import Derived.DeepKeys
import Derived.Test.YtkeakpcieokhhaaGreatDoorEx4
import Derived.Test.YtkeakpcieokhhaaGreatDoorExprV
import Derived.Shelf.Small.Wraps
import Derived.Ground.Names2Prog
import Derived.Ground.SlgnProg
import Derived.Shelf.SlicesE.Clone
import Derived.Test.YtkeakpcieokhhaaGreatDoorProg
set_option linter.unusedSimpArgs false
set_option linter.unusedVariables false
namespace Go.Proofs.YtkeakpcieokhhaaGreatDoor
section
open Go.RowKit
set_option maxRecDepth 100000
set_option maxHeartbeats 1000000
@[reducible] def d0z:HV:=.agg 3 fun _=>.imm (.slice none 0 0)
@[reducible] def TabP (s:List UInt8) (l:List Mn) (y:HV):Prop:=HPure Tryz.prog 5 [strV s,mnsV l] y
structure TabOk (s:List UInt8) (l:List Mn) (wd:Nat) (on:List Bag) (β:Nat→Bag) (p:Pc) (e:List Pt) (S:List Bag) (R:List (List Int)):Prop where
 net:NetOk s l wd on β p e
 is:tabV wd on β p=some (S,R)
 tab:TabP s l (t4 (tabP R (accS p.empty p.ends S)) (tabD S R (accS p.empty p.ends S)) (intV 0) (boolV true))
section
variable {s:List UInt8} {l:List Mn} {wd:Nat} {on:List Bag} {β:Nat→Bag} {p:Pc} {e:List Pt}
theorem NetOk.new (V:NetOk s l wd on β p e):HPure Tryz.prog 18 [netP wd on β p] (d3n p (tabV wd on β p)):=b4F wd (by have:=V.w60;omega) on V.onk β V.bek p V.pck
theorem NetOk.ref (V:NetOk s l wd on β p e):HPure Tryz.prog 19 [ndR wd on β p] (d3D p (tabV wd on β p)):=c5e wd on β p (by have:=V.w60;omega) V.inF V.inβ V.pck
theorem NetOk.many (V:NetOk s l wd on β p e):∃ k:Int,0 < e.length→HPure Tryz.prog 17 [ptsV e,intV ((e.length:Int) - 1)] (intV k):=by
 rcases V.is with ⟨rfl,_⟩ | ⟨t,hok,rfl,_⟩
 ·exact ⟨0,fun h=>absurd h (Nat.lt_irrefl _)⟩
 ·refine ⟨a4i t.w,fun h=>?_⟩
  have:=a9L (T.flat 0 t) V.ptb.1 t 0 hok ⟨[],[],by simp,rfl⟩
  have hsz:(T.flat 0 t).length=t.size:=T.flat_len 0 t
  have hps:=t.size_pos
  have e:((T.flat 0 t).length:Int) - 1=((0+t.size - 1:Nat):Int):=by omega
  rw [e];exact this
end
theorem c0O {sh:List (Nat×HObj)} (S:List Bag) (R:List (List Int)) (A:List Bool) (i:Nat):Fz sh (tdF S R A i) (tdF S R A i):=by
 unfold tdF
 split
 ·exact .sl _ _ _ _ fun _ _ _ _=>.sl _ _ _ _ fun _ _ _ _=>.imm _
 ·exact .sl _ _ _ _ fun _ _ _ _=>.imm _
 ·exact .sl _ _ _ _ fun _ _ _ _=>.imm _
def d3Q (p:Pc):Option (List Bag×List (List Int))→HV
 | some (S,R)=>t4 (tabP R (accS p.empty p.ends S)) (tabD S R (accS p.empty p.ends S)) (intV 0) (boolV true)
 | none=>t4 b4P d0z (intV 7) (boolV false)
theorem c1S (s:List UInt8) (l:List Mn) (y:HV) (z:Int) (b:Bool) (hx:NetP s l (t4 b4P y (intV z) (boolV b))) (hy:∀ sh,Fz sh y y) (n:Nat) (f:Nat→Nat→HV) (hyf:y=.sl 5 n f∨y=a1g) (hb:b=false∨z≠0):TabP s l (t4 b4P d0z (intV z) (boolV false)):=by
 refine a0k Tryz.func5 rfl kr _ _ _ rfl 71 rfl rfl (fun w F=>?_)
 refine ru 12 ?_
 refine cll (hx) ?_
 refine ru 13 ?_
 rcases hyf with rfl | rfl
 ·refine ru 13 ?_
  first
  | refine stg 34 (fun hb=>a3b (T:=52) rfl (a0Q el_52.h).1 rfl) rfl rfl rfl rfl rfl ?_
  | refine sth 34 (fun hb=>a3b (T:=52) rfl (a0Q el_52.h).1 rfl) rfl rfl rfl rfl rfl ?_
  | refine stg 34 (fun hb=>a3N (T:=52) rfl (a0Q el_52.h).1 rfl) rfl rfl rfl rfl rfl ?_
  | refine sth 34 (fun hb=>a3N (T:=52) rfl (a0Q el_52.h).1 rfl) rfl rfl rfl rfl rfl ?_
  | refine stg 34 (fun hb=>a2X (T:=52) rfl (a0Q el_52.h).1 rfl) rfl rfl rfl rfl rfl ?_
  | refine sth 34 (fun hb=>a2X (T:=52) rfl (a0Q el_52.h).1 rfl) rfl rfl rfl rfl rfl ?_
  refine ru 4 ?_
  first
  | refine stg 38 (fun hb=>a3b (T:=52) rfl (a0Q el_52.h).1 rfl) rfl rfl rfl rfl rfl ?_
  | refine a5y 41 14 38 34 false true _ _ (fun hb hb2=>a3b (T:=52) rfl (a0Q el_52.h).1 rfl) rfl rfl rfl rfl rfl pre0 rfl rfl rfl ?_
  | refine sth 38 (fun hb=>a3b (T:=52) rfl (a0Q el_52.h).1 rfl) rfl rfl rfl rfl rfl ?_
  | refine stg 38 (fun hb=>a3N (T:=52) rfl (a0Q el_52.h).1 rfl) rfl rfl rfl rfl rfl ?_
  | refine a5y 41 14 38 34 false true _ _ (fun hb hb2=>a3N (T:=52) rfl (a0Q el_52.h).1 rfl) rfl rfl rfl rfl rfl pre0 rfl rfl rfl ?_
  | refine sth 38 (fun hb=>a3N (T:=52) rfl (a0Q el_52.h).1 rfl) rfl rfl rfl rfl rfl ?_
  | refine stg 38 (fun hb=>a2X (T:=52) rfl (a0Q el_52.h).1 rfl) rfl rfl rfl rfl rfl ?_
  | refine a5y 41 14 38 34 false true _ _ (fun hb hb2=>a2X (T:=52) rfl (a0Q el_52.h).1 rfl) rfl rfl rfl rfl rfl pre0 rfl rfl rfl ?_
  | refine sth 38 (fun hb=>a2X (T:=52) rfl (a0Q el_52.h).1 rfl) rfl rfl rfl rfl rfl ?_
  first
  | refine stg 38 (fun hb=>a5l rfl rfl rfl omb omb) rfl rfl rfl rfl rfl ?_
  | refine a5y 42 14 38 34 false true _ _ (fun hb hb2=>a5l rfl rfl rfl (by first | exact Nat.le_of_ble_eq_true rfl | (simp at hb;omega) | (simp at hb2;omega) | (simp at hb hb2;first | omega | (dsimp only;omega) | (simp <;> omega)) | omega | (dsimp only;omega)) (by first | exact Nat.le_of_ble_eq_true rfl | (simp at hb;omega) | (simp at hb2;omega) | (simp at hb hb2;first | omega | (dsimp only;omega) | (simp <;> omega)) | omega | (dsimp only;omega))) rfl rfl rfl rfl rfl pre0 rfl rfl rfl ?_
  | refine sth 38 (fun hb=>a5l rfl rfl rfl omb omb) rfl rfl rfl rfl rfl ?_
  | refine stg 38 (fun hb=>a5J rfl rfl) rfl rfl rfl rfl rfl ?_
  | refine a5y 42 14 38 34 false true _ _ (fun hb hb2=>a5J rfl rfl) rfl rfl rfl rfl rfl pre0 rfl rfl rfl ?_
  | refine sth 38 (fun hb=>a5J rfl rfl) rfl rfl rfl rfl rfl ?_
  refine a5y 43 14 38 34 false true _ _ (v:=intV 0) (fun h1 h2=>absurd h2 (by rcases hb with h | h <;> simp [h])) rfl rfl rfl rfl rfl pre0 rfl rfl rfl ?_
  refine ru 5 ?_
  refine wdc (fun hr0 hc0=>?_) (fun hr0 hc0=>?_)
  ·refine ru 12 ?_
   refine a4y rfl (a0f rfl) (a0H rfl rfl ty_29.h rqc rfl rfl) (a0f rfl) (a0f rfl) [] rfl pre0 ?_
   exact b0H (.imm _) (.agg 3 _ _ fun i hi=>by match i,hi with | 0,_=>exact .imm _ | 1,_=>exact .imm _ | 2,_=>exact .imm _) (.imm _) (.imm _)
  exfalso;rcases hb with h | h <;> simp [h] at hr0
 ·refine ru 20 ?_
  refine a5y 43 14 38 34 false true _ _ (v:=intV 0) (fun h1 h2=>absurd h2 (by rcases hb with h | h <;> simp [h])) rfl rfl rfl rfl rfl pre0 rfl rfl rfl ?_
  refine ru 5 ?_
  refine wdc (fun hr0 hc0=>?_) (fun hr0 hc0=>?_)
  ·refine ru 12 ?_
   refine a4y rfl (a0f rfl) (a0H rfl rfl ty_29.h rqc rfl rfl) (a0f rfl) (a0f rfl) [] rfl pre0 ?_
   exact b0H (.imm _) (.agg 3 _ _ fun i hi=>by match i,hi with | 0,_=>exact .imm _ | 1,_=>exact .imm _ | 2,_=>exact .imm _) (.imm _) (.imm _)
  exfalso;rcases hb with h | h <;> simp [h] at hr0
section
variable {s:List UInt8} {l:List Mn} {wd:Nat} {on:List Bag} {β:Nat→Bag} {p:Pc} {e:List Pt}
theorem NetOk.tab (V:NetOk s l wd on β p e):∃ k:Int,TabP s l (if 0 < e.length∧25 < k then t4 b4P d0z (intV 0) (boolV false) else d3Q p (tabV wd on β p)):=by
 have hnew:=V.new
 have href:=V.ref
 obtain ⟨k,hM⟩:=V.many
 have hel:=V.eln
 refine ⟨k,?_⟩
 generalize tabV wd on β p=o at hnew href ⊢
 refine a0k Tryz.func5 rfl kr _ _ _ rfl 71 rfl rfl (fun w F=>?_)
 refine ru 12 ?_
 refine cll (V.net) ?_
 refine ru 32 ?_
 first
 | refine stg 38 (fun hb=>a5l rfl rfl rfl omb omb) rfl rfl rfl rfl rfl ?_
 | refine a5y 42 14 38 34 false true _ _ (fun hb hb2=>a5l rfl rfl rfl (by first | exact Nat.le_of_ble_eq_true rfl | (simp at hb;omega) | (simp at hb2;omega) | (simp at hb hb2;first | omega | (dsimp only;omega) | (simp <;> omega)) | omega | (dsimp only;omega)) (by first | exact Nat.le_of_ble_eq_true rfl | (simp at hb;omega) | (simp at hb2;omega) | (simp at hb hb2;first | omega | (dsimp only;omega) | (simp <;> omega)) | omega | (dsimp only;omega))) rfl rfl rfl rfl rfl pre0 rfl rfl rfl ?_
 | refine sth 38 (fun hb=>a5l rfl rfl rfl omb omb) rfl rfl rfl rfl rfl ?_
 | refine stg 38 (fun hb=>a5J rfl rfl) rfl rfl rfl rfl rfl ?_
 | refine a5y 42 14 38 34 false true _ _ (fun hb hb2=>a5J rfl rfl) rfl rfl rfl rfl rfl pre0 rfl rfl rfl ?_
 | refine sth 38 (fun hb=>a5J rfl rfl) rfl rfl rfl rfl rfl ?_
 first
 | refine stg 38 (fun hb=>a0e (xs:=[_,_]) (hM (by simp at hb;omega)) ⟨rfl,⟨rfl,trivial⟩⟩ ⟨(Fz.eq rfl),⟨(Fz.eq rfl),trivial⟩⟩) rfl rfl rfl rfl rfl ?_
 | refine a5y 43 14 38 34 false true _ _ (fun hb hb2=>a0e (xs:=[_,_]) (hM (by simp at hb;omega)) ⟨rfl,⟨rfl,trivial⟩⟩ ⟨(Fz.eq rfl),⟨(Fz.eq rfl),trivial⟩⟩) rfl rfl rfl rfl rfl pre0 rfl rfl rfl ?_
 | refine sth 38 (fun hb=>a0e (xs:=[_,_]) (hM (by simp at hb;omega)) ⟨rfl,⟨rfl,trivial⟩⟩ ⟨(Fz.eq rfl),⟨(Fz.eq rfl),trivial⟩⟩) rfl rfl rfl rfl rfl ?_
 refine ru 5 ?_
 refine wdc (fun hr0 hc0=>?_) (fun hr0 hc0=>?_)
 ·refine ru 12 ?_
  refine a4y rfl (a0f rfl) (a0H rfl rfl ty_29.h rqc rfl rfl) (a0f rfl) (a0f rfl) [] rfl pre0 ?_
  rw [if_pos (by simp at hr0;omega)];exact b0H (.imm _) (.agg 3 _ _ fun i hi=>by match i,hi with | 0,_=>exact .imm _ | 1,_=>exact .imm _ | 2,_=>exact .imm _) (.imm _) (.imm _)
 rw [if_neg (by simp at hr0;omega)]
 refine ru 3 ?_
 rcases o with _ | ⟨S,R⟩
 ·refine ru 2 ?_
  refine s0 (HOp.val (v':=t2 b4P (intV 7)) (a0e (xs:=[_]) (hnew) ⟨rfl,trivial⟩ ⟨(Fz.eq rfl),trivial⟩) (rfl)) ?_
  refine ru 11 ?_
  refine cll (V.doc) ?_
  refine s0 (HOp.val (v':=t2 d0z (boolV false)) (a0e (xs:=[_]) (href) ⟨rfl,trivial⟩ ⟨(Fz.eq rfl),trivial⟩) (rfl)) ?_
  refine ru 15 ?_
  refine wdc (fun hr1 hc1=>?_) (fun hr1 hc1=>?_)
  ·refine ru 15 ?_
   refine a4y rfl (a0f rfl) (a0H rfl rfl ty_29.h rqc rfl rfl) (a0f rfl) (a0f rfl) [] rfl pre0 ?_
   exact b0H (.imm _) (.agg 3 _ _ fun i hi=>by match i,hi with | 0,_=>exact .imm _ | 1,_=>exact .imm _ | 2,_=>exact .imm _) (.imm _) (a1H dcd)
  exfalso;simp at hr1
 ·refine ru 2 ?_
  refine s0 (HOp.val (v':=t2 (tabP R (accS p.empty p.ends S)) (intV 0)) (a0e (xs:=[_]) (hnew) ⟨rfl,trivial⟩ ⟨(Fz.eq rfl),trivial⟩) (rfl)) ?_
  refine ru 11 ?_
  refine cll (V.doc) ?_
  refine s0 (HOp.val (v':=t2 (tabD S R (accS p.empty p.ends S)) (boolV true)) (a0e (xs:=[_]) (href) ⟨rfl,trivial⟩ ⟨(Fz.eq rfl),trivial⟩) (rfl)) ?_
  refine ru 15 ?_
  refine wdc (fun hr1 hc1=>?_) (fun hr1 hc1=>?_)
  ·skip
   exfalso;simp at hr1
  refine ru 14 ?_
  refine a4y rfl (a0f rfl) (a0H rfl rfl ty_29.h rqc rfl rfl) (a0f rfl) (a0f rfl) [] rfl pre0 ?_
  exact b0H (show Fz _ (tabP R (accS p.empty p.ends S)) (tabP R (accS p.empty p.ends S)) from Frz.fz) (.agg 3 _ _ fun i hi=>by match i,hi with | 0,_=>exact c0O _ _ _ 0 | 1,_=>exact c0O _ _ _ 1 | 2,_=>exact c0O _ _ _ 2) (.imm _) (.imm _)
end
theorem c0J (s:List UInt8) (l:List Mn) (hs:s.length≤9223372036854775807):(∃ z:Int,TabP s l (t4 b4P d0z (intV z) (boolV false)))∨∃ wd on β p e S R,TabOk s l wd on β p e S R:=by
 rcases c3c s l hs with ⟨x,hx⟩ | ⟨e,hx,hne,hel,hmb⟩ | ⟨wd,on,β,p,e,V⟩
 ·exact .inl ⟨x,c1S s l _ x false hx (fun sh=>.imm _) 0 (fun _ _=>default) (.inr rfl) (.inl rfl)⟩
 ·exact .inl ⟨6,c1S s l _ 6 true hx (fun sh=>Frz.fz) _ _ (.inl rfl) (.inr dcd)⟩
 ·obtain ⟨k,hk⟩:=V.tab
  by_cases h:0 < e.length∧25 < k
  ·rw [if_pos h] at hk;exact .inl ⟨0,hk⟩
  ·rw [if_neg h] at hk
   rcases ht:tabV wd on β p with _ | ⟨S,R⟩
   ·rw [ht] at hk;exact .inl ⟨7,hk⟩
   ·rw [ht] at hk;exact .inr ⟨wd,on,β,p,e,S,R,V,ht,hk⟩
theorem a5W:HPure Tryz.prog 25 [b4P] (intV 0):=by
 refine a0k Tryz.func25 rfl kr _ _ _ rfl 10 rfl rfl (fun w F=>?_)
 refine ru 12 ?_
 refine wdc (fun hr0 hc0=>?_) (fun hr0 hc0=>?_)
 ·refine ru 7 ?_
  refine rt1 ?_
  exact Frz.fz
 exfalso;simp at hr0
def c8k (n:Nat) (r:List Int):Prop:=r.length=32∧∀ x∈r,-1≤x∧x < (n:Int)∧x≠0
theorem c7v (z:Bag) (g:List Bag→Nat→Nat→Bag) {S':List Bag} {R':List (List Int)} (n:Nat):∀ (at_:Nat) (S:List Bag) (R:List (List Int)),R.length=at_→at_≤S.length→1≤S.length→S.length≤200→200≤n+at_→(∀ r∈R,c8k S.length r)→c5V z g n at_ S R=some (S',R')→R'.length=S'.length∧1≤S'.length∧S'.length≤200∧∀ r∈R',c8k S'.length r:=by
  induction n with
  | zero =>
    intro at_ S R h1 h2 h3 h4 h5 h6 h
    injection h with h;injection h with ha hb;subst ha;subst hb
    exact ⟨by omega,h3,h4,h6⟩
  | succ n ih =>
    intro at_ S R h1 h2 h3 h4 h5 h6 h
    have e:c5V z g (n+1) at_ S R=if at_ < S.length then (if 200 < (a1B z (g S at_) S 32).1.length then none else c5V z g n (at_+1) (a1B z (g S at_) S 32).1 (R++[(a1B z (g S at_) S 32).2])) else some (S,R):=rfl
    have hl:=a4m z (g S at_) S 32
    have ht:=c2l z (g S at_) S h3 32
    rw [e] at h
    clear e
    generalize a1B z (g S at_) S 32=w at h hl ht
    obtain ⟨A,r⟩:=w
    dsimp only at h hl ht
    by_cases hlt:at_ < S.length
    · rw [if_pos hlt] at h
      by_cases hle:200 < A.length
      · rw [if_pos hle] at h;cases h
      · rw [if_neg hle] at h
        refine ih (at_+1) A _ (by simp [h1]) omo omo omo omo (fun q hq=>?_) h
        rcases List.mem_append.1 hq with hq | hq
        · exact ⟨(h6 q hq).1,fun x hx=>by have:=(h6 q hq).2 x hx;omega⟩
        · simp at hq;subst hq;exact ⟨hl.2.2,ht⟩
    · rw [if_neg hlt] at h
      injection h with h;injection h with ha hb;subst ha;subst hb
      exact ⟨by omega,h3,h4,h6⟩
theorem c1H {wd:Nat} {on:List Bag} {β:Nat→Bag} {p:Pc} {S:List Bag} {R:List (List Int)} (h:tabV wd on β p=some (S,R)):R.length=S.length∧1≤S.length∧S.length≤200∧∀ r∈R,c8k S.length r :=
 c7v _ _ 200 0 [Bag.zero] [] rfl (Nat.zero_le _) lrf (by show 1≤200;omega) lrf (fun r hr=>by cases hr) h
theorem b3P {wd:Nat} {on:List Bag} {β:Nat→Bag} {p:Pc} {S:List Bag} {R:List (List Int)} (h:tabV wd on β p=some (S,R)):b4t R:=fun i hi s hs=>by
 obtain ⟨h1,h2,h3,h4⟩:=c1H h
 have e:R.getD i []=R[i]:=by rw [List.getD_eq_getElem?_getD,List.getElem?_eq_getElem hi];rfl
 have h5:=h4 _ (List.getElem_mem hi)
 have hs2:s < R[i].length:=by rw [h5.1];exact hs
 have e2:R[i].getD s 0=R[i][s]:=by rw [List.getD_eq_getElem?_getD,List.getElem?_eq_getElem hs2];rfl
 rw [e,e2]
 have:=h5.2 _ (List.getElem_mem hs2)
 rw [h1]
 exact ⟨this.1,this.2.1⟩
theorem d0g {R:List (List Int)} {i k:Nat} (hi:i < R.length) (hk:k < 32):nxT R i k=(R.getD i []).getD k 0:=by
 unfold nxT
 rw [if_pos ⟨⟨by omega,by omega⟩,by omega,by omega⟩,Int.toNat_natCast,Int.toNat_natCast]
def byK (R:List (List Int)) (a:Int) (k:Nat):List Int:=((List.range k).filter (fun j:Nat=>nxT R a (j:Int) != -1)).map fun j:Nat=>(j:Int)
theorem c6U (R:List (List Int)) (a:Int) (k:Nat):(byK R a k).length≤k:=by
 unfold byK
 rw [List.length_map]
 exact Nat.le_trans (List.length_filter_le _ _) (by rw [List.length_range];exact Nat.le_refl _)
theorem b1P (R:List (List Int)) (a:Int) {p:Nat} (hp:p < 256):∀ k,k≤256→((a9d R a k).has p=true↔p < k∧nxT R a (p:Int)≠-1)
  | 0, _ => by
    show Bag.zero.has p=true↔_
    rw [Bag.zero_has]
    exact ⟨fun h=>(by cases h),fun h=>absurd h.1 (Nat.not_lt_zero _)⟩
  | k + 1, hk => by
    have ih:=b1P R a hp k omo
    unfold a9d
    split
    · rename_i h
      rw [ih]
      refine ⟨fun ⟨x,y⟩=>⟨by omega,y⟩,fun ⟨x,y⟩=>⟨?_,y⟩⟩
      rcases Nat.lt_succ_iff_lt_or_eq.1 x with e | rfl
      · exact e
      · exact absurd h y
    · rename_i h
      rw [Bag.with_has _ _ _ hp,Bool.or_eq_true,decide_eq_true_eq,ih]
      constructor
      · rintro (e | ⟨x,y⟩)
        · obtain rfl:p=k:=by omega
          exact ⟨Nat.lt_succ_self _,h⟩
        · exact ⟨by omega,y⟩
      · rintro ⟨x,y⟩
        rcases Nat.lt_succ_iff_lt_or_eq.1 x with e | rfl
        · exact .inr ⟨e,y⟩
        · exact .inl rfl
theorem a7r (R:List (List Int)) (a:Int):(a9d R a 32).list=byK R a 32:=by
  rw [Bag.list_eq]
  unfold byK
  congr 1
  refine a8a (n:=32) 224 (fun p hp=>?_) (fun p h1 h2=>?_)
  · rw [Bool.eq_iff_iff,b1P R a omo 32 dcd,bne_iff_ne]
    exact ⟨fun h=>h.2,fun h=>⟨hp,h⟩⟩
  · cases h : (a9d R a 32).has p with
    | false=>rfl
    | true=>have:=(b1P R a omo 32 dcd).1 h;omega
end
section
open Go.Lib (compareInt)
structure Wy where
 price:Int
 word:List Int
 known:Bool
 deriving DecidableEq
def Wy.zero:Wy:=⟨0,[],false⟩
instance:Inhabited Wy:=⟨Wy.zero⟩
def orV:List Int→Int
 | []=>0
 | a::l=>if a≠0 then a else orV l
def a4V:List Int→List Int→Int
 | [],[]=>0
 | [],_::_=>-1
 | _::_,[]=>1
 | a::l,b::m=>if compareInt a b≠0 then compareInt a b else a4V l m
def c5L (w o:Wy):Int:=orV [compareInt w.price o.price,compareInt w.word.length o.word.length,a4V w.word o.word]
def a1R (w o:Wy):Bool:=!o.known||decide (c5L w o < 0)
def a2J (w:Wy) (s p:Int):Wy:=⟨w.price+p,w.word++[s],true⟩
def priceOk (P:List Int) (s:Nat):Bool:=decide (s < P.length)&&decide (0≤P.getD s 0)&&decide (P.getD s 0≤1000000)
end
section
structure One where
 key:Int
 came:Int
 thing:Int
def a2e (a b:One):Bool:=if a.key=b.key then decide (a.came < b.came) else decide (a.key < b.key)
theorem b0C (a b:One):a2e a b=true↔a.key < b.key∨(a.key=b.key∧a.came < b.came):=by
 unfold a2e
 by_cases h:a.key=b.key
 ·rw [if_pos h];simp [h]
 ·rw [if_neg h];simp [h]
theorem a4d (a b:One):a2e a b=false↔b.key < a.key∨(a.key=b.key∧b.came≤a.came):=by
 rw [←Bool.not_eq_true,b0C];omega
theorem a9r {a b:One} (h:a2e a b=true):a2e b a=false:=by rw [b0C] at h;rw [a4d];omega
theorem c8D {a b c:One} (h:a2e a b=false) (k:a2e c b=true):a2e a c=false:=by rw [a4d] at h ⊢;rw [b0C] at k;omega
theorem b5R {a b c:One} (h:a2e a b=false) (k:a2e b c=false):a2e a c=false:=by rw [a4d] at h k ⊢;omega
theorem b0t (a:One):a2e a a=false:=by rw [a4d];omega
def a7W (g:Nat→One) (i j:Nat) (k:Nat):One:=if k=i then g j else if k=j then g i else g k
theorem a8x (g:Nat→One) (i j:Nat):a7W g i j i=g j:=by simp [a7W]
theorem a8q (g:Nat→One) (i j:Nat):a7W g i j j=g i:=by unfold a7W;split;rename_i h;rw [h];simp
theorem a3u (g:Nat→One) (i j k:Nat) (h1:k≠i) (h2:k≠j):a7W g i j k=g k:=by simp [a7W,h1,h2]
def HeapN (g:Nat→One) (n:Nat):Prop:=∀ k,0 < k→k < n→a2e (g k) (g ((k - 1) / 2))=false
def b4z (g:Nat→One) (n j:Nat):Prop:=(∀ k,0 < k→k < n→k≠j→a2e (g k) (g ((k - 1) / 2))=false)∧(0 < j→∀ k,0 < k→k < n→(k - 1) / 2=j→a2e (g k) (g ((j - 1) / 2))=false)
def a4u (g:Nat→One) (n i:Nat):Prop:=(∀ k,0 < k→k < n→(k - 1) / 2≠i→a2e (g k) (g ((k - 1) / 2))=false)∧(0 < i→∀ k,0 < k→k < n→(k - 1) / 2=i→a2e (g k) (g ((i - 1) / 2))=false)
theorem HeapN.congr {g g':Nat→One} {n:Nat} (h:HeapN g n) (e:∀ k,k < n→g' k=g k):HeapN g' n:=fun k h0 hk=>by
 rw [e k hk,e _ (by omega)];exact h k h0 hk
theorem c3B {g:Nat→One} {n:Nat} (h:HeapN g n):b4z g (n+1) n :=
 ⟨fun k h0 hk hne=>h k h0 (by omega),fun _ k _ _ e=>by omega⟩
theorem c9y {g:Nat→One} {n:Nat} (h:b4z g n 0):HeapN g n:=fun k h0 hk=>h.1 k h0 hk (by omega)
theorem c8t {g:Nat→One} {n j:Nat} (h:b4z g n j) (hl:a2e (g j) (g ((j - 1) / 2))=false):HeapN g n:=fun k h0 hk=>by
 by_cases e:k=j
 ·subst e;exact hl
 ·exact h.1 k h0 hk e
theorem c8o {g:Nat→One} {n j:Nat} (h:b4z g n j) (hj:0 < j) (hn:j < n) (hl:a2e (g j) (g ((j - 1) / 2))=true):b4z (a7W g ((j - 1) / 2) j) n ((j - 1) / 2):=by
 obtain ⟨i,hi⟩:∃ i,(j - 1) / 2=i:=⟨_,rfl⟩
 rw [hi] at hl ⊢
 have hij:i < j:=by omega
 refine ⟨fun k h0 hk hne=>?_,fun hi0 k h0 hk hp=>?_⟩
 ·by_cases e1:k=j
  ·subst e1
   rw [a8q,hi,a8x]
   exact a9r hl
  ·rw [a3u g i j k hne e1]
   have hk1:=h.1 k h0 hk e1
   by_cases e2:(k - 1) / 2=i
   ·rw [e2] at hk1 ⊢
    rw [a8x]
    exact c8D hk1 hl
   ·by_cases e3:(k - 1) / 2=j
    ·rw [e3,a8q]
     have:=h.2 hj k h0 hk e3
     rwa [hi] at this
    ·rw [a3u _ _ _ _ e2 e3];exact hk1
 ·have hpi:=h.1 i hi0 (by omega) (by omega)
  rw [a3u g i j ((i - 1) / 2) (by omega) (by omega)]
  by_cases e1:k=j
  ·subst e1
   rw [a8q];exact hpi
  ·rw [a3u g i j k (by omega) e1]
   have:=h.1 k h0 hk e1
   rw [hp] at this
   exact b5R this hpi
theorem b8R {g:Nat→One} {n m:Nat} (h:HeapN g m) (hm:n≤m):a4u (a7W g 0 n) n 0 :=
 ⟨fun k h0 hk hne=>by
  rw [a3u _ _ _ _ (by omega) (by omega),a3u _ _ _ _ hne (by omega)]
  exact h k h0 (by omega),fun h0=>by omega⟩
theorem c2x {g:Nat→One} {n i:Nat} (h:a4u g n i) (hl:n≤2 * i+1):HeapN g n:=fun k h0 hk=>h.1 k h0 hk (by omega)
theorem b4r {g:Nat→One} {n i j:Nat} (h:a4u g n i) (hj:a2e (g j) (g i)=false) (hm:∀ c,0 < c→c < n→(c - 1) / 2=i→a2e (g c) (g j)=false):HeapN g n:=fun k h0 hk=>by
 by_cases e:(k - 1) / 2=i
 ·rw [e];exact b5R (hm k h0 hk e) hj
 ·exact h.1 k h0 hk e
theorem c0d {g:Nat→One} {n i j:Nat} (h:a4u g n i) (hj0:0 < j) (hjn:j < n) (hji:(j - 1) / 2=i) (hl:a2e (g j) (g i)=true) (hm:∀ c,0 < c→c < n→(c - 1) / 2=i→a2e (g c) (g j)=false) :
  a4u (a7W g i j) n j:=by
 refine ⟨fun k h0 hk hne=>?_,fun _ k h0 hk hp=>?_⟩
 ·by_cases e2:(k - 1) / 2=i
  ·rw [e2,a8x]
   by_cases e1:k=j
   ·subst e1;rw [a8q];exact a9r hl
   ·rw [a3u _ _ _ _ (by omega) e1];exact hm k h0 hk e2
  ·rw [a3u g i j ((k - 1) / 2) e2 hne]
   by_cases e1:k=i
   ·subst e1
    rw [a8x]
    exact h.2 h0 j hj0 hjn hji
   ·rw [a3u _ _ _ _ e1 (by omega)];exact h.1 k h0 hk e2
 ·rw [a3u g i j k (by omega) (by omega),hji,a8x]
  have:=h.1 k h0 hk (by omega)
  rwa [hp] at this
theorem c0e {g:Nat→One} {n:Nat} (h:HeapN g n):∀ k,k < n→a2e (g k) (g 0)=false:=by
  intro k
  induction k using Nat.strongRecOn with
  | ind k ih =>
    intro hk
    by_cases h0:k=0
    · subst h0;exact b0t _
    · exact b5R (h k (by omega) hk) (ih _ (by omega) (by omega))
def at_ (l:List One) (k:Nat):One:=l.getD k ⟨0,0,0⟩
theorem a7a {l:List One} {k:Nat} (h:k < l.length):at_ l k=l[k]:=by simp [at_,h]
def a1Y (l:List One) (i j:Nat):List One:=(l.set i (at_ l j)).set j (at_ l i)
theorem a1v (l:List One) (i j:Nat):(a1Y l i j).length=l.length:=by simp [a1Y]
theorem a7h (l:List One) (i j:Nat) (hi:i < l.length) (hj:j < l.length):at_ (a1Y l i j)=a7W (at_ l) i j:=by
 funext k
 unfold a7W
 by_cases h1:k=i
 ·subst h1
  rw [if_pos rfl]
  by_cases h2:j=k
  ·subst h2;simp [at_,a1Y,hi]
  ·simp [at_,a1Y,hi,List.getElem_set_ne h2]
 ·rw [if_neg h1]
  by_cases h2:k=j
  ·subst h2;rw [if_pos rfl];simp [at_,a1Y,hj]
  ·rw [if_neg h2]
   simp [at_,a1Y,List.getElem?_set_ne (Ne.symm h2),List.getElem?_set_ne (Ne.symm h1)]
theorem a8i (l:List One) (i j:Nat) (hi:i < l.length) (hj:j < l.length):(a1Y l i j).Perm l:=by
 have h:=Array.swap_perm (xs:=l.toArray) (i:=i) (j:=j) (by simpa using hi) (by simpa using hj)
 have e:(l.toArray.swap i j (by simpa using hi) (by simpa using hj))=(a1Y l i j).toArray:=by
  simp [Array.swap,a1Y,at_,hi,hj]
 rw [e] at h
 simpa [Array.perm_iff_toList_perm] using h
end
section
open Go.RowKit
def Dsp (P:Program) (pre:List (Nat×HObj)) (T:TypeId) (x:HV) (name:String) (f:FuncId) (y:HV):Prop :=
 ∀ K w0 F0 E h w,R K w0 F0 E h w→(∀ p∈pre,h p.1=some p.2)→∀ v,Rep w E v x→∃ u,Rep w E u y∧∀ n,(method (n+1) T v name).run P w=.ok (f,u) w
theorem b6Q {P:Program} {T:TypeId} {x:HV} {name:String} {f:FuncId} (hm:∀ n v w,(method (n+1) T v name).run P w=.ok (f,v) w):Dsp P [] T x name f x :=
 fun K w0 F0 E h w r _ v hv=>⟨v,hv,fun n=>hm n v w⟩
theorem a4g {P:Program} {T elem:TypeId} {name:String} {f:FuncId} {id gg:Nat} {o:HObj} {y:HV} (hm:((P.info? T).bind fun i=>(i.methods.find? (·.name == name)).map fun m=>(m.path.isEmpty,m.func))=some (true,some (f,false)))
    (hu:P.underlying T=some (.pointer elem)) (hT:tyOf P elem=some (false,1)) (hg:o.g=gg) (hi:0 < o.n) (hs:0 < o.sz) (hy:o.f 0 0=y):Dsp P [(id,o)] T (.pt id gg 0 0) name f y:=by
  subst hg
  intro K w0 F0 E h w r hp v hv
  have ho:=hp (id,o) (List.mem_cons_self ..)
  obtain ⟨l,bl,cs,hl,hlg,hlsz,hA,hB,hcs,hn,hm',vs,hvs⟩:=r.objAt ho hi
  cases hv with
  | pt b' k' _ _ _ _ hg hh =>
    obtain ⟨hb',rfl⟩:=hh l hl hlg
    rw [hA] at hb';injection hb' with hb';subst hb'
    obtain ⟨u,hrun,hrep⟩:=a2d hT (fun _=>rfl) w E bl (0 * l.sz+0) (fun j=>vs 0 j) (fun j=>o.f 0 j) (fun j hj=>by
      obtain rfl:j=0:=by omega
      rw [hB.cell,Nat.zero_mul,Nat.add_zero]
      have:=hvs 0 0 hi hs
      rw [Nat.zero_mul,Nat.add_zero] at this
      exact this)
    refine ⟨u,?_,fun n=>b0M n T name f hm elem hu _ u w hrun⟩
    rw [←hy];exact hrep
section
variable {P:Program} {ops:Array Oper} {ov:Nat→Option HV} {g:Nat} {d:Option Tmp} {ty:TypeId} {pos:String} {af:Array Edge} {gd:Option (Nat×Bool)}
theorem b5L {f:FuncId} {t:Operand} {name:String} {args:List Operand} {at_:Array TypeId} {ρ:Operand→Value} {T:TypeId} {v u:Value} {w:World} (hf:c6n P f) (hρ:ρ t=.iface T v) (hm:∀ n,(method (n+1) T v name).run P w=.ok (f,u) w) :
  (execOp ρ ⟨d,.call ⟨.invoke t name,args.toArray,at_⟩,ty,pos,af,gd⟩).run P w=.ok (.enter f (u::args.map ρ).toArray) w:=by
 have hargs:#[u]++args.toArray.map ρ=(u::args.map ρ).toArray:=by simp
 have hext:(#[Value.iface T v]++args.toArray.map ρ).extract 1 (#[Value.iface T v]++args.toArray.map ρ).size=args.toArray.map ρ:=by
  apply Array.ext'
  simp [List.take_of_length_le]
 have hget:(#[Value.iface T v]++args.toArray.map ρ)[0]?=some (Value.iface T v):=by simp
 have hdep:P.types.size+Made.depth=(P.types.size+(Made.depth - 1))+1:=by unfold Made.depth;rfl
 have hrun:(callMethod (Value.iface T v) name (args.toArray.map ρ)).run P w=.ok (.enter f (u::args.map ρ).toArray) w:=by
  unfold callMethod
  have hprog:(program).run P w=.ok P w:=rfl
  simp only [Sem.run_bind,hprog,Result.andThen_ok,hdep,hm,hargs]
  exact a0C hf _ w
 have hdo:(do let dd ←resolve ρ ⟨.invoke t name,args.toArray,at_⟩ ty;invoke dd.target dd.args:Sem Next).run P w=.ok (.enter f (u::args.map ρ).toArray) w:=by
  unfold resolve invoke
  simp only [hρ,Sem.run_bind,Sem.run_pure,Result.andThen_ok]
  simp only [hget,hext]
  exact hrun
 exact hdo
theorem a8X {f:FuncId} {T:TypeId} {t:Operand} {name:String} {args:List Operand} {at_:Array TypeId} {x y r:HV} {xs:List HV} {pre0 pre post:List (Nat×HObj)} (hd:Dsp P pre0 T x name f y) (hc:a3K P f (y::xs) pre r post) (hk:a7x pre post) (h0:ovl ov t=some (.ifc T x)) (hx:a1L ov args xs) :
    HOp P ⟨d,.call ⟨.invoke t name,args.toArray,at_⟩,ty,pos,af,gd⟩ ov g (pre0++pre) r post:=by
  refine ⟨?_⟩;intro K w0 F0 E hh a w Q N rr ht hG hBd hpre hN
  have hrep:=hx.rep (w:=w) (E:=E) (ρ:=a.eval) (fun x hv hx h=>ht x hv (by simp [Op.operands,Call.operands];exact .inr hx) h)
  have hrec:=ht t _ (by simp [Op.operands,Call.operands]) h0
  generalize hρ:a.eval t=z at hrec
  cases hrec with
  | ifc _ v _ hv =>
    obtain ⟨u,hu,hm⟩:=hd K w0 F0 E hh w rr (fun p hp=>hpre p (List.mem_append.2 (.inl hp))) v hv
    have hexec:=b5L (d:=d) (args:=args) (at_:=at_) (ty:=ty) (pos:=pos) (af:=af) (gd:=gd) (hc 0).1 hρ hm
    unfold Oper.wp
    rw [hexec]
    simp only [Oper.upon]
    have h:=hc.sem hk rr (fun p hp=>hpre p (List.mem_append.2 (.inr hp))) (u::args.map a.eval) ⟨hu,hrep⟩ hBd
    refine Calls.mono h ?_
    rintro e w' ⟨v,E',rfl,e',r',hg',hv⟩
    exact hN v w' E' e' r' (fun g' h=>.inl (hg' g' h)) hv
theorem a4Z {f:FuncId} {T:TypeId} {t:Operand} {name:String} {args:List Operand} {at_:Array TypeId} {x y r:HV} {xs:List HV} {pre0 pre:List (Nat×HObj)} (hd:Dsp P pre0 T x name f y) (hc:a3K P f (y::xs) pre r pre) (h0:ovl ov t=some (.ifc T x)) (hx:a1L ov args xs) :
    HOp P ⟨d,.call ⟨.invoke t name,args.toArray,at_⟩,ty,pos,af,gd⟩ ov g (pre0++pre) r []:=by
  refine ⟨?_⟩;intro K w0 F0 E hh a w Q N rr ht hG hBd hpre hN
  have hrep:=hx.rep (w:=w) (E:=E) (ρ:=a.eval) (fun x hv hx h=>ht x hv (by simp [Op.operands,Call.operands];exact .inr hx) h)
  have hrec:=ht t _ (by simp [Op.operands,Call.operands]) h0
  have hpre2:∀ p∈pre,hh p.1=some p.2:=fun p hp=>hpre p (List.mem_append.2 (.inr hp))
  generalize hρ:a.eval t=z at hrec
  cases hrec with
  | ifc _ v _ hv =>
    obtain ⟨u,hu,hm⟩:=hd K w0 F0 E hh w rr (fun p hp=>hpre p (List.mem_append.2 (.inl hp))) v hv
    have hexec:=b5L (d:=d) (args:=args) (at_:=at_) (ty:=ty) (pos:=pos) (af:=af) (gd:=gd) (hc 0).1 hρ hm
    unfold Oper.wp
    rw [hexec]
    simp only [Oper.upon]
    have h:=hc.sem (b0l pre) rr hpre2 (u::args.map a.eval) ⟨hu,hrep⟩ hBd
    refine Calls.mono h ?_
    rintro e w' ⟨v,E',rfl,e',r',hg',hv⟩
    rw [a9w hpre2] at r'
    exact hN v w' E' e' r' (fun g' h=>.inl (hg' g' h)) hv
end
theorem d1Q {P:Program} {Post:HEnd→List (Nat×HObj)→Nat→Prop} {C:Ctx} {ops:Array Oper} {Q:Exit→Act→World→Prop} {n clk:Nat} {tm:List (Nat×TV)} {hp:List (Nat×HObj)} {rest:List Oper} {ty T:TypeId} {pos name:String} {af:Array Edge} {f:FuncId} {t:Nat} {args:List Operand} {at_:Array TypeId} {x y:HV} {xs:List HV} {pre0 pre:List (Nat×HObj)} (d:Nat)
    (hd:Dsp P pre0 T x name f y) (hpre0:∀ p∈pre0,hget hp p.1=some p.2) (h0:tget tm t=some (.v (.ifc T x)))
    (hc:a2y P f clk (y::xs) pre Post) (hx:a1L (a0F (tget tm)) args xs) (hpre:∀ p∈pre,hget hp p.1=some p.2) (hlt:Nat.blt d n=true) (hk:a0O tm d=true)
    (h:∀ r kp c',Post (.ret r) kp c'→HSeq C P ops rest ⟨n,(d,.v r)::tm,kp++hp,c'⟩ Q) (hpan:∀ x kp c',Post (.pan x) kp c'→b3b C Q ⟨n,tm,kp++hp,c'⟩ x) :
    HSeq C P ops (⟨some d,.call ⟨.invoke (.tmp t) name,args.toArray,at_⟩,ty,pos,af,none⟩::rest) ⟨n,tm,hp,clk⟩ Q:=by
  intro a w ⟨E,e0,r,hG,hsz,hdf,ht⟩
  have hlt:d < n:=by simpa [Nat.blt_eq] using hlt
  unfold a8R
  rw [if_pos (by simp [Region.wanted])]
  left
  have hrep:=a3Y ht hx
  have hfn:Rep w E (a.eval (.tmp t)) (.ifc T x):=ht t _ h0
  generalize hρ:a.eval (.tmp t)=z at hfn
  cases hfn with
  | ifc _ v _ hv0 =>
    obtain ⟨u,hu,hm⟩:=hd C.K C.w0 C.E0.F E (hget hp) w r hpre0 v hv0
    have hexec:=b5L (d:=some d) (args:=args) (at_:=at_) (ty:=ty) (pos:=pos) (af:=af) (gd:=none) hc.1 hρ hm
    unfold Oper.wp
    rw [hexec]
    simp only [Oper.upon]
    have hcalls:=hc.2 ⟨C.K,C.w0,C.E0.F,E,hget hp,w,pre⟩ (u::args.map a.eval) ⟨r,fun id o ho=>hpre (id,o) (a1z ho)⟩ rfl ⟨hu,hrep⟩ hG
    refine Calls.mono hcalls ?_
    rintro e w' ⟨x,kp,c',E',hP,e',r',hG',_,hv⟩
    cases e with
    | returned v =>
      cases x with
      | pan x=>exact hv.elim
      | ret x =>
        refine h x kp c' hP _ w' ⟨E',e0.trans e',by simp only [a0I];exact r',hG',by simp [Act.put,hsz],hdf.ext e',fun t y hy=>?_⟩
        simp only [a0x] at hy
        split at hy
        · rename_i htd
          subst htd
          injection hy with hy
          subst hy
          rw [a0R (by rw [hsz];exact hlt)]
          exact hv
        · rename_i htd
          rw [a0w htd]
          have:=(ht t y hy).ext e'
          cases y with
          | v z=>exact this
          | un j b z =>
            have hne:=a2b hk t j b z hy
            simp only [TVRep,a0w hne] at this ⊢;exact this
    | panicked ch =>
      cases x with
      | ret x=>exact hv.elim
      | pan x =>
        obtain ⟨v,rfl,hv⟩:=hv
        exact hpan x kp c' hP a w' E' v (e0.trans e') (by simp only [a0I];exact r') hG' hsz (hdf.ext e') (fun t y hy=>(ht t y hy).ext e') hv
    | outgrown=>cases x <;> exact hv.elim
theorem b7e {P:Program} {α:Type} {I:α→Nat→Prop} {r:α→HV} {kpf:α→List (Nat×HObj)} {C:Ctx} {ops:Array Oper} {Q:Exit→Act→World→Prop} {n clk:Nat} {tm:List (Nat×TV)} {hp:List (Nat×HObj)} {rest:List Oper} {ty T:TypeId} {pos name:String} {af:Array Edge} {f:FuncId} {t:Nat} {args:List Operand} {at_:Array TypeId} {x y:HV} {xs:List HV} {pre0 pre:List (Nat×HObj)} (d:Nat)
  (hd:Dsp P pre0 T x name f y) (hpre0:∀ p∈pre0,hget hp p.1=some p.2) (h0:tget tm t=some (.v (.ifc T x)))
  (hc:a2y P f clk (y::xs) pre (a4Q I r kpf)) (hx:a1L (a0F (tget tm)) args xs) (hpre:∀ p∈pre,hget hp p.1=some p.2) (hlt:Nat.blt d n=true) (hk:a0O tm d=true)
  (h:∀ x c',I x c'→HSeq C P ops rest ⟨n,(d,.v (r x))::tm,kpf x++hp,c'⟩ Q) :
  HSeq C P ops (⟨some d,.call ⟨.invoke (.tmp t) name,args.toArray,at_⟩,ty,pos,af,none⟩::rest) ⟨n,tm,hp,clk⟩ Q :=
 d1Q d hd hpre0 h0 hc hx hpre hlt hk (fun _ _ c' ⟨x,hI,he,hk⟩=>by injection he with he;subst he;subst hk;exact h x c' hI) (fun _ _ _ ⟨_,_,he,_⟩=>by cases he)
set_option maxRecDepth 100000
set_option maxHeartbeats 1000000
@[reducible] def qoF (l:List One):Nat→Nat→HV:=fun i j=>match j with
 | 0=>intV (at_ l i).key
 | 1=>intV (at_ l i).came
 | _=>intV (at_ l i).thing
@[reducible] def qrO (g:Nat) (l:List One):HObj:=⟨g,l.length,3,190,0,qoF l⟩
theorem a9S {sh:List (Nat×HObj)} (l:List One) (i:Nat):∀ j,j < 3→Fz sh (qoF l i j) (qoF l i j):=fun j hj=>by
 match j,hj with
 | 0,_=>exact .imm _
 | 1,_=>exact .imm _
 | 2,_=>exact .imm _
theorem a2U {kp sh:List (Nat×HObj)} {g:Nat} {l:List One}:OKz kp sh (qrO g l) (qrO g l):=.of fun i j hi hj=>.fz _ _ (a9S _ _ j hj)
theorem d1V {kp sh:List (Nat×HObj)} {a b:Bool} (h:a=b):Kz kp sh (boolV a) (boolV b):=by subst h;exact .fz _ _ (.imm _)
theorem c5G (g:Nat) (l:List One):a3K Tryz.prog 177 [.os 8101 g 0 l.length] [(8101,qrO g l)] (intV (l.length:Int)) [(8101,qrO g l)]:=by
 intro c
 refine a0p Tryz.func177 rfl kr _ _ _ _ rfl 5 rfl rfl (fun X ok hX=>?_)
 refine ru 13 ?_
 refine fr1 ok hX rw1 (()) (trivial) (kza) ?_
 exact ⟨⟨_,rfl,a2U⟩,trivial⟩
theorem a9Q (g:Nat) (l:List One) (i j:Nat) (hi:i < l.length) (hj:j < l.length):a3K Tryz.prog 178 [.os 8101 g 0 l.length,intV (i:Int),intV (j:Int)] [(8101,qrO g l)] (boolV (a2e (at_ l i) (at_ l j))) [(8101,qrO g l)]:=by
 intro c
 refine a0p Tryz.func178 rfl kr _ _ _ _ rfl 40 rfl rfl (fun X ok hX=>?_)
 refine ru 21 ?_
 refine wdc (fun hr0 hc0=>?_) (fun hr0 hc0=>?_)
 ·skip
  have hne:¬ (at_ l i).key=(at_ l j).key:=(by simpa using hr0)
  refine ru 18 ?_
  refine fr1 ok hX rw1 (()) (trivial) ((d1V (by unfold a2e;rw [if_neg hne];simp))) ?_
  exact ⟨⟨_,rfl,a2U⟩,trivial⟩
 have hne:(at_ l i).key=(at_ l j).key:=(by simpa using hr0)
 refine ru 19 ?_
 refine fr1 ok hX rw1 (()) (trivial) ((d1V (by unfold a2e;rw [if_pos hne];simp))) ?_
 exact ⟨⟨_,rfl,a2U⟩,trivial⟩
theorem c7b {kp sh:List (Nat×HObj)} {g i j a b:Nat} {l:List One} (ha:a=i) (hb:b=j) (hi:i < l.length) (hj:j < l.length):OKz kp sh ⟨g,l.length,3,190,0,upd (upd (qoF l) a 0 3 fun k=>(ldv true 3 (qoF l b) 0).cell k) b 0 3 fun k=>(ldv true 3 (qoF l a) 0).cell k⟩ (qrO g (a1Y l i j)):=by
 subst ha;subst hb
 refine a2K (a1v l a b).symm fun i' j' hi' hj'=>?_
 have e:∀ k,(ldv true 3 (qoF l k) 0).cell j'=qoF l k j':=fun k=>rfl
 have hs:qoF (a1Y l a b) i' j'=if i'=a then qoF l b j' else if i'=b then qoF l a j' else qoF l i' j':=by
  have hw:at_ (a1Y l a b) i'=a7W (at_ l) a b i':=by rw [a7h l a b hi hj]
  have key:∀ x:One,at_ (a1Y l a b) i'=x→∀ y,at_ l y=x→qoF (a1Y l a b) i' j'=qoF l y j':=fun x h1 y h2=>by
   match j',hj' with
   | 0,_=>show intV _=intV _;rw [h1,h2]
   | 1,_=>show intV _=intV _;rw [h1,h2]
   | 2,_=>show intV _=intV _;rw [h1,h2]
  by_cases h1:i'=a
  ·rw [if_pos h1];exact key _ (by rw [hw,h1,a8x]) b rfl
  ·rw [if_neg h1]
   by_cases h2:i'=b
   ·rw [if_pos h2];exact key _ (by rw [hw,h2,a8q]) a rfl
   ·rw [if_neg h2];exact key _ (by rw [hw,a3u _ _ _ _ h1 h2]) i' rfl
 rw [hs]
 by_cases h2:i'=b
 ·rw [a4t ⟨h2,Nat.zero_le _,by omega⟩,Nat.sub_zero,e]
  by_cases h1:i'=a
  ·rw [if_pos h1,←h1,←h2];exact a9S l i' j' hj'
  ·rw [if_neg h1,if_pos h2];exact a9S l a j' hj'
 ·rw [a1G (fun h=>h2 h.1)]
  by_cases h1:i'=a
  ·rw [a4t ⟨h1,Nat.zero_le _,by omega⟩,Nat.sub_zero,e,if_pos h1];exact a9S l b j' hj'
  ·rw [a1G (fun h=>h1 h.1),if_neg h1,if_neg h2];exact a9S l i' j' hj'
theorem b1x (g:Nat) (l:List One) (i j:Nat) (hi:i < l.length) (hj:j < l.length):a3K Tryz.prog 179 [.os 8101 g 0 l.length,intV (i:Int),intV (j:Int)] [(8101,qrO g l)] (.tup 0 fun _=>default) [(8101,qrO g (a1Y l i j))]:=by
 intro c
 refine a0p Tryz.func179 rfl kr _ _ _ _ rfl 20 rfl rfl (fun X ok hX=>?_)
 refine ru 18 ?_
 refine a1t ?_
 refine a0X ok hX a2j.one rfl  [] rfl pre0 (()) (trivial) (by rfl) (by rfl) (kza) ?_
 exact ⟨⟨_,rfl,(c7b om om hi hj)⟩,trivial⟩
theorem R.few {K:Nat→Prop} {w0 w:World} {F0:Addr→Prop} {E:Env} {h:Nat→Option HObj} (r:R K w0 F0 E h w) {id k:Nat} {o:HObj} (ho:h id=some o) (hk:k≤o.n) (hf:o.fl≤k):R K w0 F0 E (a2I h id { o with n:=k }) w :=
  have key:∀ id' o',a2I h id { o with n:=k } id'=some o'→∃ o1,h id'=some o1:=fun id' o' h'=>by
    unfold a2I at h'
    split at h'
    · rename_i e;subst e;exact ⟨o,ho⟩
    · exact ⟨o',h'⟩
  { r with
    obj:=fun id' o' ho'=>by
      unfold a2I at ho'
      split at ho'
      · rename_i e
        subst e
        injection ho' with ho'
        subst ho'
        obtain ⟨l,hl,a⟩:=r.obj _ _ ho
        refine ⟨l,hl,a.g,a.G,a.sz,a.pos,?_⟩
        rcases a.at_ with ⟨h1,h2,h3,h4⟩ | ⟨b,cs,h1,h2,h3,h4,h5,h6,⟨vs,h8⟩,h9,h10⟩ | ⟨b,ob,h1,h2,h3,h4⟩
        · exact .inl ⟨h1,h2,by show k=0;omega,by show o.fl≤k;exact hf⟩
        · exact .inr (.inl ⟨b,cs,h1,h2,h3,Nat.le_trans hk h4,h5,h6,⟨vs,fun i j hi hj=>h8 i j (Nat.lt_of_lt_of_le hi hk) hj⟩,h9,hf⟩)
        · have:=h3.n;have:=h3.fl;omega
      · exact r.obj id' o' ho'
    inj:=fun a b oa ob la lb x ha hb=>by
      obtain ⟨o1,h1⟩:=key a oa ha
      obtain ⟨o2,h2⟩:=key b ob hb
      exact r.inj a b o1 o2 la lb x h1 h2 }
theorem c5w {C:Ctx} {n clk:Nat} {tm:List (Nat×TV)} {hp:List (Nat×HObj)} (id k:Nat) {g m sz ty fl:Nat} {f:Nat→Nat→HV} (h:hget hp id=some ⟨g,m,sz,ty,fl,f⟩) (hk:k≤m) (hf:fl≤k):a4D C ⟨n,tm,hp,clk⟩ ⟨n,tm,(id,⟨g,k,sz,ty,fl,f⟩)::hp,clk⟩:=by
 intro a w ⟨E,e0,r,hG,hsz,hdf,ht⟩
 exact ⟨E,e0,by have:=r.few h hk hf;rw [a0o];exact this,hG,hsz,hdf,ht⟩
theorem b2w {C:Ctx} {n clk:Nat} {tm:List (Nat×TV)} {hp:List (Nat×HObj)} (t j:Nat) (b:Bool) {y:HV} (h:tget tm t=some (.un j b y)) (hj:tget tm j=some (.v (.imm (.bool b)))):a4D C ⟨n,tm,hp,clk⟩ ⟨n,(t,.v y)::tm,hp,clk⟩:=by
 intro a w ⟨E,e0,r,hG,hsz,hdf,htm⟩
 refine ⟨E,e0,r,hG,hsz,hdf,fun t' z hz'=>?_⟩
 simp only [a0x] at hz'
 split at hz'
 ·rename_i e;subst e;injection hz' with hz';subst hz'
  have h1:TVRep w E a (a.tmps.getD t' undef) (.un j b y):=htm t' _ h
  have h2:Rep w E (a.tmps.getD j undef) (.imm (.bool b)):=htm j _ hj
  exact h1.1 (Rep.imm_inv h2)
 ·exact htm t' z hz'
@[reducible] def d3I (gr n:Nat) (came:Int):Nat→Nat→HV:=fun _ j=>match j with
 | 0=>.os 8101 gr 0 n
 | _=>intV came
@[reducible] def a8K (g gr n:Nat) (came:Int):HObj:=⟨g,1,2,136,0,d3I gr n came⟩
@[reducible] def qoH (x:One):Nat→HV:=fun j=>match j with
 | 0=>intV x.key
 | 1=>intV x.came
 | _=>intV x.thing
@[reducible] def qoV (x:One):HV:=.ifc 190 (.agg 3 (qoH x))
@[reducible] def qI (gq:Nat):HV:=.ifc 188 (.pt 8 gq 0 0)
theorem a3w {kp sh:List (Nat×HObj)} {g gr n n':Nat} {came came':Int} {o1:HObj} {F:Nat→Nat→HV} (f0:F 0 0=.os 8101 gr 0 n) (f1:F 0 1=intV came) (k:n=n':=by rfl) (kc:came=came':=by rfl) (h1:hget kp 8101=some o1:=by rfl) (e1:o1.g=gr:=by rfl):OKz kp sh ⟨g,1,2,136,0,F⟩ (a8K g gr n' came'):=by
 subst k;subst kc
 exact .of fun i j hi hj=>by
  obtain rfl:i=0:=by omega
  match j,hj with
  | 0,_=>rw [f0];exact .os _ _ _ _ _ h1 e1
  | 1,_=>rw [f1];exact .fz _ _ (.imm _)
theorem c0s (l:List One) (x:One):∀ j,j < 3→qoF (l++[x]) l.length j=qoH x j:=fun j hj=>by
 have e:at_ (l++[x]) l.length=x:=by simp [at_]
 match j,hj with
 | 0,_=>show intV _=intV _;rw [e]
 | 1,_=>show intV _=intV _;rw [e]
 | 2,_=>show intV _=intV _;rw [e]
theorem c6b {l:List One} {x:One} {i:Nat} (hi:i < l.length):qoF (l++[x]) i=qoF l i:=by
 have e:at_ (l++[x]) i=at_ l i:=by rw [a7a (by simp;omega),a7a hi,List.getElem_append_left]
 funext j
 show (match j with | 0=>intV (at_ (l++[x]) i).key | 1=>intV (at_ (l++[x]) i).came | _=>intV (at_ (l++[x]) i).thing)=_
 rw [e];first | done | rfl
theorem c6m {sh:List (Nat×HObj)} (x:One):∀ j,j < 3→Fz sh (qoH x j) (qoH x j):=fun j hj=>by
 match j,hj with
 | 0,_=>exact .imm _
 | 1,_=>exact .imm _
 | 2,_=>exact .imm _
theorem d0u {kp sh:List (Nat×HObj)} {x:One} {f:Nat→HV} (h:∀ j,j < 3→f j=qoH x j):Kz kp sh (.ifc 190 (.agg 3 f)) (qoV x) :=
 .fz _ _ (.ifc _ _ _ (.agg _ _ _ fun j hj=>by rw [h j hj];exact c6m x j hj))
theorem c7D {kp sh:List (Nat×HObj)} {g:Nat} {l:List One} {x:One} {f:Nat→Nat→HV} (h:∀ j,j < 3→Fz sh (f 0 j) (qoH x j)):OKz kp sh ⟨g,l.length+1,3,190,0,cat l.length (qoF l) f⟩ (qrO g (l++[x])):=by
 refine a2K sml fun i j hi hj=>?_
 by_cases h':i < l.length
 ·rw [a6B h',c6b h'];exact a9S l i j hj
 ·obtain rfl:i=l.length:=by omega
  rw [a5O lrf,Nat.sub_self,c0s l x j hj];exact h j hj
theorem c5n {kp sh:List (Nat×HObj)} {g a m:Nat} {l:List One} {x:One} {F:Nat→HV} (ha:a=l.length):OKz kp sh ⟨g,l.length,3,190,0,upd (qoF (l++[x])) a 0 m F⟩ (qrO g l):=by
 refine a2K rfl fun i j hi hj=>?_
 rw [a1G omo,c6b hi];exact a9S l i j hj
theorem c4m {g gr n n':Nat} {came:Int} (h:n=n'):a2m (a8K g gr n came) (a8K g gr n' came):=by subst h;exact .refl _
theorem c7u (c gq gr:Nat) (l:List One) (came:Int) (x:One) {F:Nat→HV} (hF:∀ j,j < 3→F j=qoH x j) (hl:l.length≤1000000000000):a2y Tryz.prog 181 c [.pt 8 gq 0 0,.ifc 190 (.agg 3 F)] [(8,a8K gq gr l.length came),(8101,qrO gr l)] (a4Q (fun (q:Nat) _=>True) (fun _=>.tup 0 fun _=>default) (fun q=>[(8,a8K gq q (l++[x]).length came),(8101,qrO q (l++[x]))])):=by
 refine a0p Tryz.func181 rfl kr _ _ _ _ rfl 20 rfl rfl (fun X ok hX=>?_)
 refine ru 3 ?_
 refine s0 (a5h kr rfl) ?_
 refine ru 13 ?_
 refine wdc (fun hr0 hc0=>?_) (fun hr0 hc0=>?_)
 ·refine ru 6 ?_
  refine a2x 17 (a0d (id:=17) (hs:=[_]) ei_134.h omx rfl omx ⟨rfl,rfl,rfl,rfl,trivial⟩) rfl rfl pre0 rfl rfl (k':=6) rfl ?_
  refine a2x 18 (b6n ei_134.h rfl omx omx (a0D rfl omx) omx omx rfl) rfl rfl (a0h rfl (a0L rfl)) rfl rfl (k':=7) rfl ?_
  refine ru 3 ?_
  refine a1t ?_
  refine a0X ok hX a2j.one rfl  [] rfl pre0 ((c+2+6)) (trivial) (by rfl) (by rfl) (kza) ?_
  exact ⟨⟨_,rfl,(a3w rfl rfl sml)⟩,⟨⟨_,rfl,(c7D (fun j hj=>by have e:∀ z,z=F j→Fz [] z (qoH x j):=(fun z hz=>by rw [hz,hF j hj];exact c6m x j hj);match j,hj with | 0,_=>exact e _ rfl | 1,_=>exact e _ rfl | 2,_=>exact e _ rfl))⟩,trivial⟩⟩
 exfalso;simp at hr0
theorem c9T (c gq gr:Nat) (l:List One) (came:Int) (x:One) (hl:l.length≤1000000000000):a2y Tryz.prog 180 c [.pt 8 gq 0 0] [(8,a8K gq gr (l++[x]).length came),(8101,qrO gr (l++[x]))] (a4Q (fun (_:Unit) _=>True) (fun _=>qoV x) (fun _=>[(8,a8K gq gr l.length came),(8101,qrO gr l)])):=by
 refine a0p Tryz.func180 rfl kr _ _ _ _ rfl 27 rfl rfl (fun X ok hX=>?_)
 refine ru 51 ?_
 refine (c5w 8101 l.length rfl sml (Nat.zero_le _)).wp ?_
 refine ru 7 ?_
 refine fr1 ok hX rw1 (()) (trivial) ((d0u (f:=qoF (l++[x]) (0+(((l++[x]).length:Int) - 1).toNat)) (by rw [show 0+(((l++[x]).length:Int) - 1).toNat=l.length from by simp];exact c0s l x))) ?_
 exact ⟨⟨_,rfl,(a3w rfl rfl sml)⟩,⟨⟨_,rfl,(c5n sml)⟩,trivial⟩⟩
theorem d2W (c gq gr:Nat) (came:Int) (l:List One) (j:Nat) (hl:l.length≤2000000000000) (hj:j < l.length) (hu:b4z (at_ l) l.length j):a2y Tryz.prog 117 c [qI gq,intV (j:Int)] [(8,a8K gq gr l.length came),(8101,qrO gr l)] (a4Q (fun (m:List One) _=>m.Perm l∧HeapN (at_ m) m.length) (fun _=>.tup 0 fun _=>default) (fun m=>[(8,a8K gq gr m.length came),(8101,qrO gr m)])):=by
 refine a0p Tryz.func117 rfl kr _ _ _ _ rfl 23 rfl rfl (fun X ok hX=>?_)
 refine ru 1 ?_
 refine a0l (α:=Nat×List One) (fun x c=>⟨23,[(0,.v (qI gq)),(1,.v (intV (x.1:Int)))],[(8,a8K gq gr x.2.length came),(8101,qrO gr x.2)],c⟩) (fun x=>x.2.length=l.length∧x.2.Perm l∧x.1 < l.length∧b4z (at_ x.2) x.2.length x.1) (fun x=>x.1) ((j,l)) (by exact ⟨rfl,.refl _,hj,hu⟩) (a0b rfl lrf tsa hsa) (fun x c hx NhL1 hL1=>?_)
 revert hx hL1;obtain ⟨k,m⟩:=x;intro hx hL1;dsimp only at hx hL1 ⊢
 obtain ⟨hml,hmp,hk,hU⟩:=hx
 refine ru 2 ?_
 rcases Nat.eq_zero_or_pos k with h0 | h0
 ·refine ru 3 ?_
  first
  | refine hq_ 7 (HOp.val (v':=intV 0) (b7i b5s rfl rfl rfl omy omy omy omy) ((by subst h0;first | done | rfl | decide))) rfl rfl pre0 rfl rfl ?_
  | refine hq_ 7 (HOp.val (v':=intV 0) (b5U rfl rfl (by first | decide | omega)) ((by subst h0;first | done | rfl | decide))) rfl rfl pre0 rfl rfl ?_
  refine ru 10 ?_
  refine rvl (boolV true) ((by subst h0;first | done | rfl)) ?_
  refine b4a 12 3 11 false true (v:=.imm undef) (fun h=>absurd h dcd) rfl rfl rfl rfl pre0 rfl rfl rfl ?_
  refine b4a 13 3 11 false true (v:=.imm undef) (fun h=>absurd h dcd) rfl rfl rfl rfl pre0 rfl rfl rfl ?_
  refine b4a 14 3 11 false true (v:=.imm undef) (fun h=>absurd h dcd) rfl rfl rfl rfl pre0 rfl rfl rfl ?_
  refine b4a 15 3 11 false true (v:=.imm undef) (fun h=>absurd h dcd) rfl rfl rfl rfl pre0 rfl rfl rfl ?_
  refine b4a 16 3 11 false true (v:=.imm undef) (fun h=>absurd h dcd) rfl rfl rfl rfl pre0 rfl rfl rfl ?_
  refine s0 (a4O rfl rfl) ?_
  refine ru 2 ?_
  refine wdc (fun hr0 hc0=>?_) (fun hr0 hc0=>?_)
  ·refine ru 3 ?_
   refine a0c ?_
   refine ru 1 ?_
   refine a1t ?_
   refine a0X ok hX a2j.one rfl  [] rfl pre0 (m) (⟨hmp,(by subst h0;exact c9y hU)⟩) (by rfl) (by rfl) (kza) ?_
   exact ⟨⟨_,rfl,(a3w rfl rfl)⟩,⟨⟨_,rfl,a2U⟩,trivial⟩⟩
  exfalso;simp at hr0
 ·refine ru 3 ?_
  first
  | refine hq_ 7 (HOp.val (v':=intV (((k - 1) / 2:Nat):Int)) (b7i b5s rfl rfl rfl omy omy omy omy) ((congrArg intV omo))) rfl rfl pre0 rfl rfl ?_
  | refine hq_ 7 (HOp.val (v':=intV (((k - 1) / 2:Nat):Int)) (b5U rfl rfl (by first | decide | omega)) ((congrArg intV omo))) rfl rfl pre0 rfl rfl ?_
  refine ru 10 ?_
  refine rvl (boolV false) ((congrArg boolV (by rw [beq_eq_false_iff_ne];omega))) ?_
  refine c3r 12 11 false (a1p rfl) rfl rfl rfl rfl pre0 rfl rfl ?_
  refine c3r 13 11 false (a1p rfl) rfl rfl rfl rfl pre0 rfl rfl ?_
  refine c3r 14 11 false (a1p rfl) rfl rfl rfl rfl pre0 rfl rfl ?_
  refine c3r 15 11 false (a4Z (xs:=[_,_]) (args:=[_,_]) (pre0:=[(8,_)]) (pre:=[(8101,_)]) (a4g kr Tryz.underlying188 rfl rfl (nb rfl) (nb rfl) rfl) (a9Q gr m k ((k - 1) / 2) om om) rfl ⟨rfl,⟨rfl,trivial⟩⟩) rfl rfl rfl rfl (a0h rfl (a0h rfl pre0)) rfl rfl ?_
  refine c3r 16 11 false (b9O rfl) rfl rfl rfl rfl pre0 rfl rfl ?_
  refine s0 (b1d rfl rfl) ?_
  refine ru 2 ?_
  refine wdc (fun hr0 hc0=>?_) (fun hr0 hc0=>?_)
  ·refine ru 3 ?_
   refine a0c ?_
   refine ru 1 ?_
   refine a1t ?_
   refine a0X ok hX a2j.one rfl  [] rfl pre0 (m) (⟨hmp,c8t hU (by simpa using hr0)⟩) (by rfl) (by rfl) (kza) ?_
   exact ⟨⟨_,rfl,(a3w rfl rfl)⟩,⟨⟨_,rfl,a2U⟩,trivial⟩⟩
  refine ru 7 ?_
  refine hm_ 21 (a8X (xs:=[_,_]) (args:=[_,_]) (pre0:=[(8,_)]) (pre:=[(8101,qrO gr m)]) (post:=[(8101,qrO gr (a1Y m ((k - 1) / 2) k))]) (a4g kr Tryz.underlying188 rfl rfl (nb rfl) (nb rfl) rfl) (b1x gr m ((k - 1) / 2) k om om) (a0J (List.mem_cons_self ..) rfl a2f) rfl ⟨rfl,⟨rfl,trivial⟩⟩) rfl rfl (a0h rfl (a0h rfl pre0)) rfl rfl (c':=c+1) rfl ?_
  refine ru 7 ?_
  exact hL1 (((k - 1) / 2,a1Y m ((k - 1) / 2) k)) _ _ (by (try dsimp only);exact ⟨by rw [a1v];exact hml,(a8i m _ _ om om).trans hmp,by omega,(by rw [show at_ (a1Y m ((k - 1) / 2) k)=a7W (at_ m) ((k - 1) / 2) k from a7h m _ _ om om,a1v];exact c8o hU h0 om (by simpa using hr0))⟩) omd (a0b rfl lrf tsa (a0g.cons rfl (c4m (a1v m _ _).symm) hsa))
theorem b2k {g:Nat→One} {N k j:Nat} (hj:(j=2 * k+2∧a2e (g (2 * k+2)) (g (2 * k+1))=true)∨(j=2 * k+1∧(N≤2 * k+2∨a2e (g (2 * k+2)) (g (2 * k+1))=false))):∀ c,0 < c→c < N→(c - 1) / 2=k→a2e (g c) (g j)=false:=by
 intro c h0 hc hk
 have hc2:c=2 * k+1∨c=2 * k+2:=by omega
 rcases hj with ⟨rfl,h⟩ | ⟨rfl,h⟩
 ·rcases hc2 with rfl | rfl
  ·exact a9r h
  ·exact b0t _
 ·rcases hc2 with rfl | rfl
  ·exact b0t _
  ·rcases h with h | h
   ·omega
   ·exact h
structure DnOk (l m:List One) (N:Nat):Prop where
 perm:m.Perm l
 heap:HeapN (at_ m) N
 rest:∀ q,N≤q→at_ m q=at_ l q
theorem c2n {l m:List One} {N k j:Nat} (hml:m.length=l.length) (hmp:m.Perm l) (hU:a4u (at_ m) N k) (hR:∀ q,N≤q→at_ m q=at_ l q) (hl:l.length≤2000000000000) (hN:N≤l.length) (hk:k < N) (hj:0 < j∧j < N∧(j - 1) / 2=k) (hls:a2e (at_ m j) (at_ m k)=true) (hm:∀ c,0 < c→c < N→(c - 1) / 2=k→a2e (at_ m c) (at_ m j)=false) (hjb:j≤2000000000000) :
  (a1Y m k j).length=l.length∧(a1Y m k j).Perm l∧a4u (at_ (a1Y m k j)) N j∧(∀ q,N≤q→at_ (a1Y m k j) q=at_ l q)∧j≤2000000000000:=by
 have e:=a7h m k j omo omo
 refine ⟨by rw [a1v];exact hml,(a8i m _ _ omo omo).trans hmp,?_,fun q hq=>?_,hjb⟩
 ·rw [e];exact c0d hU hj.1 hj.2.1 hj.2.2 hls hm
 ·rw [e,a3u _ _ _ _ omo omo];exact hR q hq
theorem c9D (c gq gr:Nat) (came:Int) (l:List One) (N:Nat) (hl:l.length≤2000000000000) (hN:N≤l.length) (hu:a4u (at_ l) N 0):a2y Tryz.prog 118 c [qI gq,intV 0,intV (N:Int)] [(8,a8K gq gr l.length came),(8101,qrO gr l)] (a4Q (fun (m:List One×Bool) _=>DnOk l m.1 N) (fun m=>boolV m.2) (fun m=>[(8,a8K gq gr m.1.length came),(8101,qrO gr m.1)])):=by
 refine a0p Tryz.func118 rfl kr _ _ _ _ rfl 48 rfl rfl (fun X ok hX=>?_)
 refine ru 13 ?_
 refine a0l (α:=Nat×List One) (fun x c=>⟨48,[(0,.v (qI gq)),(1,.v (intV 0)),(2,.v (intV (N:Int))),(7,.v (intV (x.1:Int)))],[(8,a8K gq gr x.2.length came),(8101,qrO gr x.2)],c⟩) (fun x=>x.2.length=l.length∧x.2.Perm l∧a4u (at_ x.2) N x.1∧(∀ q,N≤q→at_ x.2 q=at_ l q)∧x.1≤2000000000000) (fun x=>N - x.1) ((0,l)) (by exact ⟨rfl,.refl _,hu,fun _ _=>rfl,Nat.zero_le _⟩) (a0b rfl lrf tsa hsa) (fun x c hx NhL1 hL1=>?_)
 revert hx hL1;obtain ⟨k,m⟩:=x;intro hx hL1;dsimp only at hx hL1 ⊢
 obtain ⟨hml,hmp,hU,hR,hkb⟩:=hx
 refine ru 6 ?_
 refine rvl (intV ((2 * k+1:Nat):Int)) ((congrArg intV om)) ?_
 refine ru 15 ?_
 refine wdc (fun hr0 hc0=>?_) (fun hr0 hc0=>?_)
 ·skip
  have hlf:N≤2 * k+1:=(by simp at hr0;omega)
  refine ru 3 ?_
  refine a0c ?_
  refine ru 11 ?_
  refine fr1 ok hX rw1 ((m,_)) (⟨hmp,c2x hU hlf,hR⟩) (kza) ?_
  exact ⟨⟨_,rfl,(a3w rfl rfl)⟩,⟨⟨_,rfl,a2U⟩,trivial⟩⟩
 have hlf:2 * k+1 < N:=(by simp at hr0;omega)
 refine ru 13 ?_
 refine rvl (intV ((2 * k+2:Nat):Int)) ((congrArg intV om)) ?_
 refine ru 12 ?_
 first
 | refine b4a 32 3 28 true _ (fun hb=>a4Z (xs:=[_,_]) (args:=[_,_]) (pre0:=[(8,_)]) (pre:=[(8101,_)]) (a4g krf Tryz.underlying188 rfl rfl (nb rfl) (nb rfl) rfl) (a9Q gr m (2 * k+2) (2 * k+1) (by simp at hb;omega) omo) rfl ⟨rfl,⟨rfl,trivial⟩⟩) rfl rfl rfl rfl (a0h rfl (a0h rfl pre0)) rfl rfl rfl ?_
 | refine b6r 32 3 28 _ _ true _ (fun hb=>a4Z (xs:=[_,_]) (args:=[_,_]) (pre0:=[(8,_)]) (pre:=[(8101,_)]) (a4g krf Tryz.underlying188 rfl rfl (nb rfl) (nb rfl) rfl) (a9Q gr m (2 * k+2) (2 * k+1) (by simp at hb;omega) omo) rfl ⟨rfl,⟨rfl,trivial⟩⟩) rfl rfl rfl rfl (a0h rfl (a0h rfl pre0)) rfl rfl rfl ?_
 refine ru 3 ?_
 refine wdc (fun hr1 hc1=>?_) (fun hr1 hc1=>?_)
 ·skip
  have hch:(2 * k+2 < N)∧a2e (at_ m (2 * k+2)) (at_ m (2 * k+1))=true:=(by simp at hr1;exact ⟨by omega,hr1.2⟩)
  refine ru 11 ?_
  refine hq_ 38 (a4Z (xs:=[_,_]) (args:=[_,_]) (pre0:=[(8,_)]) (pre:=[(8101,_)]) (a4g kr Tryz.underlying188 rfl rfl (nb rfl) (nb rfl) rfl) (a9Q gr m (2 * k+2) k om om) rfl ⟨rfl,⟨rfl,trivial⟩⟩) rfl rfl (a0h rfl (a0h rfl pre0)) rfl rfl ?_
  refine ru 3 ?_
  refine wdc (fun hr2 hc2=>?_) (fun hr2 hc2=>?_)
  ·refine ru 3 ?_
   refine a0c ?_
   refine ru 11 ?_
   refine fr1 ok hX rw1 ((m,_)) (⟨hmp,b4r hU (by simpa using hr2) (b2k (.inl ⟨rfl,hch.2⟩)),hR⟩) (kza) ?_
   exact ⟨⟨_,rfl,(a3w rfl rfl)⟩,⟨⟨_,rfl,a2U⟩,trivial⟩⟩
  refine ru 7 ?_
  refine hm_ 43 (a8X (xs:=[_,_]) (args:=[_,_]) (pre0:=[(8,_)]) (pre:=[(8101,qrO gr m)]) (post:=[(8101,qrO gr (a1Y m k (2 * k+2)))]) (a4g kr Tryz.underlying188 rfl rfl (nb rfl) (nb rfl) rfl) (b1x gr m k (2 * k+2) om om) (a0J (List.mem_cons_self ..) rfl a2f) rfl ⟨rfl,⟨rfl,trivial⟩⟩) rfl rfl (a0h rfl (a0h rfl pre0)) rfl rfl (c':=c+1) rfl ?_
  refine ru 7 ?_
  exact hL1 ((2 * k+2,a1Y m k (2 * k+2))) _ _ (by (try dsimp only);exact c2n hml hmp hU hR hl hN om om (by simpa using hr2) (b2k (.inl ⟨rfl,hch.2⟩)) om) omd (a0b rfl lrf tsa (a0g.cons rfl (c4m (a1v m _ _).symm) hsa))
 have hch:N≤2 * k+2∨a2e (at_ m (2 * k+2)) (at_ m (2 * k+1))=false:=(by by_cases h9:2 * k+2 < N;(right;simp at hr1;exact hr1 om);(left;omega))
 refine ru 8 ?_
 refine hq_ 38 (a4Z (xs:=[_,_]) (args:=[_,_]) (pre0:=[(8,_)]) (pre:=[(8101,_)]) (a4g kr Tryz.underlying188 rfl rfl (nb rfl) (nb rfl) rfl) (a9Q gr m (2 * k+1) k om om) rfl ⟨rfl,⟨rfl,trivial⟩⟩) rfl rfl (a0h rfl (a0h rfl pre0)) rfl rfl ?_
 refine ru 3 ?_
 refine wdc (fun hr2 hc2=>?_) (fun hr2 hc2=>?_)
 ·refine ru 3 ?_
  refine a0c ?_
  refine ru 11 ?_
  refine fr1 ok hX rw1 ((m,_)) (⟨hmp,b4r hU (by simpa using hr2) (b2k (.inr ⟨rfl,hch⟩)),hR⟩) (kza) ?_
  exact ⟨⟨_,rfl,(a3w rfl rfl)⟩,⟨⟨_,rfl,a2U⟩,trivial⟩⟩
 refine ru 7 ?_
 refine hm_ 43 (a8X (xs:=[_,_]) (args:=[_,_]) (pre0:=[(8,_)]) (pre:=[(8101,qrO gr m)]) (post:=[(8101,qrO gr (a1Y m k (2 * k+1)))]) (a4g kr Tryz.underlying188 rfl rfl (nb rfl) (nb rfl) rfl) (b1x gr m k (2 * k+1) om om) (a0J (List.mem_cons_self ..) rfl a2f) rfl ⟨rfl,⟨rfl,trivial⟩⟩) rfl rfl (a0h rfl (a0h rfl pre0)) rfl rfl (c':=c+1) rfl ?_
 refine ru 7 ?_
 exact hL1 ((2 * k+1,a1Y m k (2 * k+1))) _ _ (by (try dsimp only);exact c2n hml hmp hU hR hl hN om om (by simpa using hr2) (b2k (.inr ⟨rfl,hch⟩)) om) omd (a0b rfl lrf tsa (a0g.cons rfl (c4m (a1v m _ _).symm) hsa))
theorem c7J (l l':List One) (n:Nat) (hn:l.length=n+1) (h2:l'.Perm (a1Y l 0 n)) (h3:HeapN (at_ l') n) (h4:∀ k,n≤k→at_ l' k=at_ (a1Y l 0 n) k) :
  ∃ l'',l'=l''++[at_ l 0]∧l''.length=n∧((at_ l 0)::l'').Perm l∧HeapN (at_ l'') l''.length:=by
 have hlen:l'.length=n+1:=by rw [h2.length_eq,a1v,hn]
 have e:at_ l' n=at_ l 0:=by rw [h4 n lrf,a7h _ _ _ omo omo,a8q]
 have hs:l'=l'.take n++[at_ l 0]:=by
  rw [←e,a7a omo]
  have h1:=(List.take_append_drop n l').symm
  have h5:l'.drop n=[l'[n]]:=by
   rw [List.drop_eq_getElem_cons omo,List.drop_eq_nil_of_le omo]
  rw [h5] at h1
  exact h1
 have ht:(l'.take n).length=n:=by rw [List.length_take];omega
 refine ⟨l'.take n,hs,ht,?_,?_⟩
 ·have h5:((at_ l 0)::l'.take n).Perm l':=by
   conv=>rhs;rw [hs]
   exact (List.perm_append_comm (l₁:=[at_ l 0]) (l₂:=l'.take n))
  exact (h5.trans h2).trans (a8i l 0 n omo omo)
 ·rw [ht]
  refine h3.congr fun k hk=>?_
  rw [a7a omo,a7a omo,List.getElem_take]
theorem d1X {l:List One} {x:One} (h:HeapN (at_ l) l.length):b4z (at_ (l++[x])) (l++[x]).length l.length:=by
 rw [List.length_append,List.length_singleton]
 refine c3B (h.congr fun k hk=>?_)
 rw [a7a (by simp;omega),a7a hk,List.getElem_append_left]
@[reducible] def HpI (l:List One) (m:List One×Nat):Prop:=m.1.Perm l∧HeapN (at_ m.1) m.1.length
theorem c8i (c gq gr:Nat) (l:List One) (came:Int) (x:One) {F:Nat→HV} (hF:∀ j,j < 3→F j=qoH x j) (hl:l.length≤1000000000000) (hh:HeapN (at_ l) l.length):a2y Tryz.prog 97 c [qI gq,.ifc 190 (.agg 3 F)] [(8,a8K gq gr l.length came),(8101,qrO gr l)] (a4Q (fun m _=>HpI (l++[x]) m) (fun _=>.tup 0 fun _=>default) (fun m=>[(8,a8K gq m.2 m.1.length came),(8101,qrO m.2 m.1)])):=by
 have hlx:(l++[x]).length=l.length+1:=by simp
 refine a0p Tryz.func97 rfl kr _ _ _ _ rfl 12 rfl rfl (fun X ok hX=>?_)
 refine ru 4 ?_
 refine b7e 6 (xs:=[_]) (pre:=[(8,_),(8101,_)]) (b6Q (fun n v w=>by kernel_rfl)) pre0 rfl (c7u _ gq gr l came x hF hl) ⟨rfl,trivial⟩ (a0h rfl (a0h rfl pre0)) rfl rfl (fun q c1 hx1=>?_)
 (try dsimp only)
 refine ru 5 ?_
 refine hq_ 9 (a4Z (xs:=[]) (args:=[]) (pre0:=[(8,_)]) (pre:=[(8101,_)]) (a4g kr Tryz.underlying188 rfl rfl (nb rfl) (nb rfl) rfl) (c5G q (l++[x])) rfl trivial) rfl rfl (a0h rfl (a0h rfl pre0)) rfl rfl ?_
 refine ru 1 ?_
 refine rvl (intV (l.length:Int)) ((congrArg intV om)) ?_
 refine a0n 11 (xs:=[_,_]) (pre:=[(8,_),(8101,_)]) (d2W _ gq q came (l++[x]) l.length om om (d1X hh)) ⟨rfl,⟨rfl,trivial⟩⟩ (a0h rfl (a0h rfl pre0)) rfl rfl (fun m c2 hm=>?_)
 (try dsimp only)
 refine ru 1 ?_
 refine a1t ?_
 refine a0X ok hX a2j.one rfl  [] rfl pre0 ((m,q)) (hm) (by rfl) (by rfl) (kza) ?_
 exact ⟨⟨_,rfl,(a3w rfl rfl)⟩,⟨⟨_,rfl,a2U⟩,trivial⟩⟩
theorem d0Y (c gq gr:Nat) (l:List One) (came:Int) (hl:l.length≤1000000000000) (h0:0 < l.length) (hh:HeapN (at_ l) l.length):a2y Tryz.prog 98 c [qI gq] [(8,a8K gq gr l.length came),(8101,qrO gr l)] (a4Q (fun (m:List One) _=>(at_ l 0::m).Perm l∧HeapN (at_ m) m.length) (fun _=>qoV (at_ l 0)) (fun m=>[(8,a8K gq gr m.length came),(8101,qrO gr m)])):=by
 obtain ⟨n,hn⟩:∃ n,l.length=n+1:=⟨l.length - 1,by omega⟩
 have hsl:(a1Y l 0 n).length=l.length:=a1v l 0 n
 have hds:a4u (at_ (a1Y l 0 n)) n 0:=by rw [a7h l 0 n omo omo];exact b8R hh omo
 refine a0p Tryz.func98 rfl kr _ _ _ _ rfl 15 rfl rfl (fun X ok hX=>?_)
 refine ru 8 ?_
 refine hq_ 5 (a4Z (xs:=[]) (args:=[]) (pre0:=[(8,_)]) (pre:=[(8101,_)]) (a4g kr Tryz.underlying188 rfl rfl (nb rfl) (nb rfl) rfl) (c5G gr l) rfl trivial) rfl rfl (a0h rfl (a0h rfl pre0)) rfl rfl ?_
 refine ru 1 ?_
 refine rvl (intV (n:Int)) ((congrArg intV om)) ?_
 refine ru 7 ?_
 refine hm_ 9 (a8X (xs:=[_,_]) (args:=[_,_]) (pre0:=[(8,_)]) (pre:=[(8101,qrO gr l)]) (post:=[(8101,qrO gr (a1Y l 0 n))]) (a4g kr Tryz.underlying188 rfl rfl (nb rfl) (nb rfl) rfl) (b1x gr l 0 n om om) (a0J (List.mem_cons_self ..) rfl a2f) rfl ⟨rfl,⟨rfl,trivial⟩⟩) rfl rfl (a0h rfl (a0h rfl pre0)) rfl rfl (c':=c+1) rfl ?_
 refine ru 3 ?_
 refine (a0W 8 (a8K gq gr (a1Y l 0 n).length came) rfl (c4m hsl.symm)).wp ?_
 refine ru 3 ?_
 refine a0n 12 (xs:=[_,_,_]) (pre:=[(8,_),(8101,_)]) (c9D _ gq gr came (a1Y l 0 n) n om om hds) ⟨rfl,⟨rfl,⟨rfl,trivial⟩⟩⟩ (a0h rfl (a0h rfl pre0)) rfl rfl (fun m c1 hm=>?_)
 (try dsimp only)
 refine ru 3 ?_
 obtain ⟨hm1,hm2,hm3⟩:=hm;obtain ⟨m1,mb⟩:=m;obtain ⟨m2,e1,e2,e3,e4⟩:=c7J l m1 n hn hm1 hm2 hm3;dsimp only at e1 ⊢;subst e1
 refine b3i ?_
 refine ru 1 ?_
 refine b7e 14 (xs:=[]) (pre:=[(8,_),(8101,_)]) (b6Q (fun n v w=>by kernel_rfl)) pre0 rfl (c9T _ gq gr m2 came (at_ l 0) om) trivial (a0h rfl (a0h rfl pre0)) rfl rfl (fun u c2 hx2=>?_)
 (try dsimp only)
 refine ru 4 ?_
 refine fr1 ok hX rw1 (m2) (⟨e3,e4⟩) ((by exact d0u (fun j _=>rfl))) ?_
 exact ⟨⟨_,rfl,(a3w rfl rfl)⟩,⟨⟨_,rfl,a2U⟩,trivial⟩⟩
theorem c6d (c gq gr:Nat) (l:List One) (came key thing:Int) (hl:l.length≤1000000000000) (hh:HeapN (at_ l) l.length) (hc:0≤came∧came≤1000000000000):a2y Tryz.prog 55 c [.pt 8 gq 0 0,intV key,intV thing] [(8,a8K gq gr l.length came),(8101,qrO gr l)] (a4Q (fun m _=>HpI (l++[⟨key,came,thing⟩]) m) (fun _=>.tup 0 fun _=>default) (fun m=>[(8,a8K gq m.2 m.1.length (came+1)),(8101,qrO m.2 m.1)])):=by
 refine a0p Tryz.func55 rfl kr _ _ _ _ rfl 28 rfl rfl (fun X ok hX=>?_)
 refine ru 7 ?_
 refine wdc (fun hr0 hc0=>?_) (fun hr0 hc0=>?_)
 ·skip
  exfalso;simp at hr0
 refine ru 16 ?_
 refine b4H kr kr kr kr (c':=c+12) rfl ?_ sml
 refine a0n 20 (xs:=[_,_]) (pre:=[(8,_),(8101,_)]) (c8i _ gq gr l came ⟨key,came,thing⟩ (fun j hj=>by match j,hj with | 0,_=>rfl | 1,_=>rfl | 2,_=>rfl) hl hh) ⟨rfl,⟨rfl,trivial⟩⟩ (a0h rfl (a0h rfl pre0)) rfl rfl (fun m c1 hm=>?_)
 (try dsimp only)
 refine a2H ?_
 refine ru 11 ?_
 refine a1t ?_
 refine a0X ok hX a2j.one rfl  [] rfl pre0 (m) (hm) (by rfl) (by rfl) (kza) ?_
 exact ⟨⟨_,rfl,(a3w rfl rfl)⟩,⟨⟨_,rfl,a2U⟩,trivial⟩⟩
theorem c8w (c gq gr:Nat) (l:List One) (came:Int) (hl:l.length≤1000000000000) (h0:0 < l.length) (hh:HeapN (at_ l) l.length):a2y Tryz.prog 57 c [.pt 8 gq 0 0] [(8,a8K gq gr l.length came),(8101,qrO gr l)] (a4Q (fun (m:List One) _=>(at_ l 0::m).Perm l∧HeapN (at_ m) m.length) (fun _=>t3 (intV (at_ l 0).thing) (intV (at_ l 0).key) (boolV true)) (fun m=>[(8,a8K gq gr m.length came),(8101,qrO gr m)])):=by
 refine a0p Tryz.func57 rfl kr _ _ _ _ rfl 33 rfl rfl (fun X ok hX=>?_)
 refine ru 27 ?_
 refine wdc (fun hr0 hc0=>?_) (fun hr0 hc0=>?_)
 ·skip
  exfalso;simp at hr0;subst hr0;simp at h0
 refine ru 8 ?_
 refine a0n 24 (xs:=[_]) (pre:=[(8,_),(8101,_)]) (d0Y _ gq gr l came hl h0 hh) ⟨rfl,trivial⟩ (a0h rfl (a0h rfl pre0)) rfl rfl (fun m c1 hm=>?_)
 (try dsimp only)
 refine s0 (a5h kr rfl) ?_
 refine ru 21 ?_
 refine a1q ok hX a2j.one rfl (a0f rfl) (a0f rfl) (a0f rfl) [] rfl pre0 (m) (hm) (by rfl) (by rfl) ((a9H kza kza kza)) ?_
 exact ⟨⟨_,rfl,(a3w rfl rfl)⟩,⟨⟨_,rfl,a2U⟩,trivial⟩⟩
theorem d2z (gq gr:Nat) (l:List One) (came:Int):a3K Tryz.prog 56 [.pt 8 gq 0 0] [(8,a8K gq gr l.length came),(8101,qrO gr l)] (intV (l.length:Int)) [(8,a8K gq gr l.length came),(8101,qrO gr l)]:=by
 intro c
 refine a0p Tryz.func56 rfl kr _ _ _ _ rfl 10 rfl rfl (fun X ok hX=>?_)
 refine ru 12 ?_
 refine wdc (fun hr0 hc0=>?_) (fun hr0 hc0=>?_)
 ·skip
  exfalso;simp at hr0
 refine ru 13 ?_
 refine fr1 ok hX rw1 (()) (trivial) (kza) ?_
 exact ⟨⟨_,rfl,(a3w rfl rfl)⟩,⟨⟨_,rfl,a2U⟩,trivial⟩⟩
end
section
open Go.ChangeShapes Go.WideShapes Go.ChangeAt Go.RowKit Go.Deep
section
variable {H:Type} {encH:TypeId×Value→H} {P:Program} {w:World} {base:Nat} {spare:Nat→Bool} {held:Bool}
theorem b6b {α:Type} {t e:TypeId} {fuel:Nat} {A:Option Addr} {n c:Nat} {x:DataW H×List MemPlace} (ht:P.underlying t=some (.slice e)) (size:Nat) (hC:P.cellsOf e=size) (hpos:0 < size)
    (enc:α→List Value) (henc:∀ a,(enc a).length=size) (ok:α→Prop)
    (hel:∀ (m:Nat) (cs:List Value) (y:DataW H×List MemPlace),DataW.trod encH P w base spare held m e cs=some y→∃ a:α,cs=enc a∧ok a)
    (hf:DataW.trod encH P w base spare held fuel t [.slice A n c]=some x) :
    ∃ l:List α,l.length=n∧Sl w w.heap.size size enc A l∧n≤c∧c≤9223372036854775807∧∀ a∈l,ok a:=by
  rcases open_slice ht hf with ⟨h0,_⟩ | ⟨a,len,cap,m,k,D,Pl,hcs,hb,hl,hm,hmm,hx,hi⟩
  · injection h0 with h0 _
    injection h0 with h1 h2 h3
    subst h1;subst h2;subst h3
    exact ⟨[],rfl,⟨henc,a1n.none_⟩,by omega,by omega,by simp⟩
  · injection hcs with h0 _
    injection h0 with h1 h2 h3
    subst h1;subst h2;subst h3
    have hnm:n≤m:=by rw [hmm];split <;> omega
    have each:∀ k,k≤n→∃ l:List α,l.length=k∧(∀ i (hi:i < l.length),w.cells? base (a.add (i * size)) size=some (enc l[i]))∧∀ y∈l,ok y:=by
      intro k
      induction k with
      | zero=>intro _;exact ⟨[],rfl,fun i hi=>by simp at hi,by simp⟩
      | succ k ih =>
        intro hk
        obtain ⟨l,hl1,hl2,hl3⟩:=ih (by omega)
        obtain ⟨cs',h1,h2⟩:=hi k (by omega)
        rw [hC] at h1
        obtain ⟨a',rfl,hok⟩:=hel _ _ _ h2
        refine ⟨l++[a'],by simp [hl1],fun i hi=>?_,fun y hy=>?_⟩
        · by_cases hik:i < l.length
          · rw [List.getElem_append_left hik];exact hl2 i hik
          · have:i=k:=by simp at hi;omega
            subst this
            simp [hl1,h1]
        · rcases List.mem_append.1 hy with hy | hy
          · exact hl3 y hy
          · simp at hy;subst hy;exact hok
    obtain ⟨l,hl1,hl2,hl3⟩:=each n (Nat.le_refl _)
    refine ⟨l,hl1,⟨henc,?_,fun hn=>?_⟩,hl,by unfold maxLen at hm;omega,hl3⟩
    · have:∀ m:List α,(m.flatMap enc).length=m.length * size:=by
        intro m
        induction m with
        | nil=>simp
        | cons x m ih=>simp [List.flatMap_cons,ih,henc,Nat.add_mul,Nat.add_comm]
      exact this l
    · refine ⟨a,rfl,?_,fun j u hu=>?_⟩
      · have h0:=hl2 0 hn
        have:=World.cells?_block h0 hpos
        rwa [a3g] at this
      · have hfl:(l.flatMap enc).length=l.length * size:=by
          have:∀ m:List α,(m.flatMap enc).length=m.length * size:=by
            intro m
            induction m with
            | nil=>simp
            | cons x m ih=>simp [List.flatMap_cons,ih,henc,Nat.add_mul,Nat.add_comm]
          exact this l
        have hj:j < l.length * size:=by
          rcases Nat.lt_or_ge j (l.flatMap enc).length with hlt | hge
          · rw [hfl] at hlt;exact hlt
          · rw [List.getElem?_eq_none hge] at hu;cases hu
        have hjd:j / size < l.length:=(Nat.div_lt_iff_lt_mul hpos).2 hj
        have hjm:j % size < size:=Nat.mod_lt _ hpos
        have e1:j=j / size * size+j % size:=by rw [Nat.mul_comm];exact (Nat.div_add_mod j size).symm
        rw [e1] at hu ⊢
        rw [a1P henc _ _ _ hjd hjm] at hu
        have:=(World.cells?_some (hl2 _ hjd)).2.2 (j % size) hjm
        rw [a6k] at this
        rw [this,hu]
def b8B (x:Int):Prop:=(Lit.int .i64 x).wf=true
def c6l (p:Int×Int):Prop:=b8B p.1∧b8B p.2
theorem c5x {e:TypeId} (he:P.underlying e=some (.int .i64)) (m:Nat) (cs:List Value) (y:DataW H×List MemPlace) (h:DataW.trod encH P w base spare held m e cs=some y):∃ a:Int,cs=a4U a∧b8B a:=by
 obtain ⟨b,rfl,_,hw⟩:=DataW.trod_int he h
 exact ⟨b,rfl,hw⟩
theorem c8F {e i:TypeId} (he:P.underlying e=some (.array 2 i)) (hi:P.underlying i=some (.int .i64)) (hci:P.cellsOf i=1) (hce:P.cellsOf e=2) (m:Nat) (cs:List Value) (y:DataW H×List MemPlace) (h:DataW.trod encH P w base spare held m e cs=some y) :
    ∃ a:Int×Int,cs=c0R a∧c6l a:=by
  obtain ⟨xs,k,_,_,hlen,hxl,hx⟩:=DataW.trod_array he h
  rw [hce] at hlen
  rw [hci] at hx
  match cs,hlen,xs,hxl with
  | [c0, c1], _, [x0, x1], _ =>
    obtain ⟨a,h0,_,w0⟩:=DataW.trod_int hi (hx 0 (by omega))
    obtain ⟨b,h1,_,w1⟩:=DataW.trod_int hi (hx 1 (by omega))
    simp at h0 h1
    subst h0;subst h1
    exact ⟨(a,b),rfl,w0,w1⟩
end
end
section
open Go.RowKit
structure Tok where
 kind:Int
 typ:Int
 attr:Int
 rune:Int
 m0:Int
 m1:Int
 m2:Int
 m3:Int
 m4:Int
 m5:Int
 m6:Int
 m7:Int
theorem Tok.eq_iff (s t:Tok):(s.kind=t.kind∧s.typ=t.typ∧s.attr=t.attr∧s.rune=t.rune∧s.m0=t.m0∧s.m1=t.m1∧s.m2=t.m2∧s.m3=t.m3∧s.m4=t.m4∧s.m5=t.m5∧s.m6=t.m6∧s.m7=t.m7)↔s=t:=by
 cases s;cases t;simp only [Tok.mk.injEq]
instance tokDec:DecidableEq Tok:=fun s t=>decidable_of_iff _ (Tok.eq_iff s t)
def Tok.cells (t:Tok):List Value:=[.int .i64 t.kind,.int .i64 t.typ,.int .i64 t.attr,.int .i32 t.rune,.int .u16 t.m0,.int .u16 t.m1,.int .u16 t.m2,.int .u16 t.m3,.int .u16 t.m4,.int .u16 t.m5,.int .u16 t.m6,.int .u16 t.m7]
theorem Tok.cells_length (t:Tok):t.cells.length=12:=rfl
def Tok.val (t:Tok):Value:=.agg t.cells.toArray
attribute [local go_sem] a6f a7U a2Y a2R
end
section
open Go.RowKit
theorem a9k (x:Int):(a4U x).length=1:=by simp [a4U]
theorem c1N (x:Int):∀ u∈a4U x,u.oneCell'=true:=by
 intro u hu
 simp only [a4U,List.mem_cons,List.not_mem_nil,or_false] at hu
 subst hu;rfl
theorem c3v:Elem Tryz.prog 23 3 1 8 :=
 ⟨Tryz.underlying23,b3w (z:=.int .i64 0) krf rfl,by omega,by omega⟩
set_option maxHeartbeats 400000 in
theorem c2r (A:Option Addr) (n c B:Nat) (l:List Int) (w:World) (hn:l.length=n) (h:Sl w B 1 a4U A l) (hB:B≤w.heap.size) (hl:n≤1000000000) :
    Calls Tryz.prog 99 #[.slice A n c] w (a3V 3 1 a4U w l):=by
  have hq:=Lib.run_eql_slice_nil (P:=Tryz.prog) w 23 3 A n c 0 0 Tryz.underlying23
  cases A with
  | none =>
    have hl0:l=[]:=by
      rcases Nat.eq_zero_or_pos l.length with h0 | h0
      · exact List.eq_nil_of_length_eq_zero h0
      · obtain ⟨b,o,e,_⟩:=h.addr h0 omo;cases e
    subst hl0
    obtain rfl:0=n:=hn
    go_enter Tryz.func99,Tryz.ntmps99
    go_wp2
    go_ret
    exact a3V.of rfl rfl (Own.nil _ _ _ a9k) (Below.refl _ _)
  | some a =>
    have HN:=Lib.hid hn;clear hn
    go_enter Tryz.func99,Tryz.ntmps99
    go_wp2_with (at_builtin;refine a5w rfl _ _ _ rfl c3v w.heap.size a4U c1N _ [] 0 rfl rfl (Own.empty _ _ a9k lrf) B _ n _ l rfl HN.out (h.alloc hB _) omo (b6L lrf _) ?_;intro A2 c2 w2 hown2 hg2 hat2)
    go_ret
    exact a3V.of HN.out rfl (by simpa using hown2) ((Own.empty _ _ a9k lrf).below_grown ((Below.refl _ _).alloc lrf _) hg2 lrf (b6L lrf _))
theorem b7I (t:Int) (j:Nat) (h:j < 1):intV t=.imm ((a4U t).getD j undef):=by
 match j,h with | 0,_=>rfl
end
end Go.Proofs.YtkeakpcieokhhaaGreatDoor
namespace Go.Proofs
section
open Go.Shelf
def Tryz.lays122_ren:Go.Shelf.Ren:=⟨fun | 122=>95 | 215=>116 | n=>n,fun | 3=>3 | 4=>4 | n=>n,fun | n=>n⟩
theorem Tryz.lays122:Go.Proofs.Lays.n122 Tryz.prog Tryz.lays122_ren:={
 mixed:=by kernel_rfl
 f122:=Tryz.func95.trans (congrArg some (by kernel_rfl))
 f215:=Tryz.func116.trans (congrArg some (by kernel_rfl))
 t3:=Tryz.underlying3
 a3:=Tryz.isAgg3
 z3:=Tryz.sizeOf3
 v3:=Tryz.zeroValue3
 t4:=Tryz.underlying4
 a4:=Tryz.isAgg4
 z4:=Tryz.sizeOf4
 v4:=Tryz.zeroValue4 }
open Go.RowKit in
theorem Tryz.cmp_Compare_int (x y:Int) (w:World) :
  Calls Tryz.prog 95 #[.int .i64 x,.int .i64 y] w fun e w'=>e=.returned (.int .i64 (Lib.compareInt x y))∧w'=w:=Any.cmp_Compare_int Tryz.lays122 x y w
end
end Go.Proofs
namespace Go.Proofs.YtkeakpcieokhhaaGreatDoor
section
open Go.Lib (compareInt)
open Go.RowKit
set_option maxRecDepth 100000
set_option maxHeartbeats 1000000
@[reducible] def wyF (w:Wy):Nat→HV:=fun j=>match j with
 | 0=>intV w.price
 | 1=>a0i w.word
 | _=>boolV w.known
@[reducible] def wyV (w:Wy):HV:=.agg 3 (wyF w)
theorem a8F {sh:List (Nat×HObj)} (w:Wy):∀ j,j < 3→Fz sh (wyF w j) (wyF w j):=fun j hj=>by
 match j,hj with
 | 0,_=>exact .imm _
 | 1,_=>exact (show Fz _ (a0i _) (a0i _) from Frz.fz)
 | 2,_=>exact .imm _
theorem c0U (a b:Int):HPure Tryz.prog 95 [intV a,intV b] (intV (compareInt a b)):=by
 refine ⟨⟨_,_,Tryz.func95,rfl,by kernel_rfl⟩,fun w F vs hF hr hw=>?_⟩
 obtain ⟨u,v,rfl,hu,hv⟩:=c9f hr
 rw [hu.imm_inv,hv.imm_inv]
 refine (Tryz.cmp_Compare_int a b w).mono ?_
 rintro e w' ⟨rfl,rfl⟩
 exact a7d hF (Below.refl _ _)
theorem c4R {l:List Int} {k:Nat} (h:k < l.length) (h0:l.getD k 0=0):orV (l.drop k)=orV (l.drop (k+1)):=by
 rw [List.drop_eq_getElem_cons h]
 rw [List.getD_eq_getElem?_getD,List.getElem?_eq_getElem h] at h0
 show (if l[k]≠0 then l[k] else orV (l.drop (k+1)))=_
 rw [if_neg (fun h9=>h9 h0)]
theorem d0E {l:List Int} {k:Nat} (h:k < l.length) (h0:l.getD k 0≠0):orV (l.drop k)=l.getD k 0:=by
 rw [List.drop_eq_getElem_cons h]
 rw [List.getD_eq_getElem?_getD,List.getElem?_eq_getElem h] at h0 ⊢
 show (if l[k]≠0 then l[k] else orV (l.drop (k+1)))=l[k]
 exact if_pos h0
theorem c8U (l:List Int) (hl:l.length≤1000000):HPure Tryz.prog 94 [a0i l] (intV (orV l)):=by
 refine a0k Tryz.func94 rfl kr _ _ _ rfl 18 rfl rfl (fun w F=>?_)
 refine ru 19 ?_
 refine a0l (α:=Nat) (fun x c=>⟨18,[(3,.v (intV 0)),(6,.v (a0i l)),(7,.v (intV (l.length:Int))),(8,.v (intV (x:Int)))],[],c⟩) (fun x=>x≤l.length∧orV (l.drop x)=orV l) (fun x=>l.length - x) (0) (by exact ⟨Nat.zero_le _,rfl⟩) (a0b rfl lrf tsa a0g.nil) (fun k c hx NhL1 hL1=>?_)
 (try dsimp only at hx hL1 ⊢)
 obtain ⟨hk,ho⟩:=hx
 refine ru 6 ?_
 refine wdc (fun hr0 hc0=>?_) (fun hr0 hc0=>?_)
 ·skip
  have hkl:k < l.length:=om
  refine ru 18 ?_
  refine wdc (fun hr1 hc1=>?_) (fun hr1 hc1=>?_)
  ·skip
   have hne:l.getD k 0≠0:=(by simpa using hr1)
   refine ru 9 ?_
   refine a0q ?_
   refine ru 2 ?_
   refine rt1 ?_
   exact a7A (by rw [←ho,d0E hkl hne];simp)
  have he:l.getD k 0=0:=(by simpa using hr1)
  refine ru 7 ?_
  exact hL1 (k+1) _ _ (by (try dsimp only);exact ⟨by omega,by rw [←ho,c4R hkl he]⟩) omd (a0b rfl lrf tsa a0g.nil)
 refine ru 2 ?_
 refine a0c ?_
 refine ru 9 ?_
 refine rt1 ?_
 exact a7A (by rw [←ho,List.drop_eq_nil_of_le om];rfl)
theorem b6l {a b:List Int} {k:Nat} (ha:k < a.length) (hb:k < b.length):a4V (a.drop k) (b.drop k)=if compareInt (a.getD k 0) (b.getD k 0)≠0 then compareInt (a.getD k 0) (b.getD k 0) else a4V (a.drop (k+1)) (b.drop (k+1)):=by
 rw [List.drop_eq_getElem_cons ha,List.drop_eq_getElem_cons hb,List.getD_eq_getElem?_getD,List.getElem?_eq_getElem ha,List.getD_eq_getElem?_getD,List.getElem?_eq_getElem hb]
 rfl
theorem c6K (a b:List Int) (ha:a.length≤1000000) (hb:b.length≤1000000):HPure Tryz.prog 96 [a0i a,a0i b] (intV (a4V a b)):=by
 refine a0k Tryz.func96 rfl kr _ _ _ rfl 36 rfl rfl (fun w F=>?_)
 refine ru 14 ?_
 refine a0l (α:=Nat) (fun x c=>⟨36,[(0,.v (a0i a)),(1,.v (a0i b)),(9,.v (a0i a)),(10,.v (intV (a.length:Int))),(11,.v (intV (x:Int)))],[],c⟩) (fun x=>x≤a.length∧x≤b.length∧a4V (a.drop x) (b.drop x)=a4V a b) (fun x=>a.length - x) (0) (by exact ⟨Nat.zero_le _,Nat.zero_le _,rfl⟩) (a0b rfl lrf tsa a0g.nil) (fun k c hx NhL1 hL1=>?_)
 (try dsimp only at hx hL1 ⊢)
 obtain ⟨hk,hkb,ho⟩:=hx
 refine ru 6 ?_
 refine wdc (fun hr0 hc0=>?_) (fun hr0 hc0=>?_)
 ·skip
  have hka:k < a.length:=om
  refine ru 22 ?_
  refine wdc (fun hr1 hc1=>?_) (fun hr1 hc1=>?_)
  ·refine ru 9 ?_
   refine a0q ?_
   refine ru 2 ?_
   refine rt1 ?_
   exact a7A (by rw [←ho,List.drop_eq_getElem_cons hka,show b.drop k=[] from List.drop_eq_nil_of_le om];rfl)
  have hkl:k < b.length:=om
  refine ru 15 ?_
  refine cll (c0U (a.getD k 0) (b.getD k 0)) ?_
  refine ru 9 ?_
  refine wdc (fun hr2 hc2=>?_) (fun hr2 hc2=>?_)
  ·skip
   have hne:compareInt (a.getD k 0) (b.getD k 0)≠0:=(by simpa using hr2)
   refine ru 9 ?_
   refine a0q ?_
   refine ru 2 ?_
   refine rt1 ?_
   exact a7A (by rw [←ho,b6l hka hkl,if_pos hne])
  have he:compareInt (a.getD k 0) (b.getD k 0)=0:=(by simpa using hr2)
  refine ru 7 ?_
  exact hL1 (k+1) _ _ (by (try dsimp only);exact ⟨by omega,by omega,by rw [←ho,b6l hka hkl,if_neg (fun h=>h he)]⟩) omd (a0b rfl lrf tsa a0g.nil)
 refine ru 2 ?_
 refine a0c ?_
 refine ru 12 ?_
 refine wdc (fun hr3 hc3=>?_) (fun hr3 hc3=>?_)
 ·refine ru 7 ?_
  refine rt1 ?_
  exact a7A (by rw [←ho,show a.drop k=[] from List.drop_eq_nil_of_le om,List.drop_eq_getElem_cons (show k < b.length by omega)];rfl)
 refine ru 8 ?_
 refine rt1 ?_
 exact a7A (by rw [←ho,show a.drop k=[] from List.drop_eq_nil_of_le om,show b.drop k=[] from List.drop_eq_nil_of_le om];rfl)
theorem b5p (p q:Wy) (hp:p.word.length≤1000000) (hq:q.word.length≤1000000):HPure Tryz.prog 54 [wyV p,wyV q] (boolV (a1R p q)):=by
 refine a0k Tryz.func54 rfl kr _ _ _ rfl 30 rfl rfl (fun w F=>?_)
 refine ru 8 ?_
 cases hk:q.known
 ·refine ru 4 ?_
  refine d0 4 (HOp.val (v':=boolV true) (a1p rfl) ((by rw [hk];rfl))) ?_
  refine ru 1 ?_
  first
  | refine a3C 10 3 8 false _ (fun hb=>a0r ty_3.h rfl omb omb (fun h=>(by first | rfl | cases h))) rfl rfl rfl rfl (a0L rfl) rfl rfl rfl (k':=6) rfl ?_
  | refine a3C 10 3 8 false _ (fun hb=>a0j ty_3.h rfl omb (fun h=>(by first | rfl | cases h))) rfl rfl rfl rfl pre0 rfl rfl rfl (k':=6) rfl ?_
  refine ru 1 ?_
  first
  | refine a3C 12 3 8 false _ (fun hb=>a0r ty_3.h rfl omb omb (fun h=>(by first | rfl | cases h))) rfl rfl rfl rfl (a0L rfl) rfl rfl rfl (k':=8) rfl ?_
  | refine a3C 12 3 8 false _ (fun hb=>a0j ty_3.h rfl omb (fun h=>(by first | rfl | cases h))) rfl rfl rfl rfl pre0 rfl rfl rfl (k':=8) rfl ?_
  refine a3C 13 3 8 false _ (fun hb=>a0e (xs:=[_,_]) (c0U p.price q.price) ⟨rfl,⟨rfl,trivial⟩⟩ ⟨fe,⟨fe,trivial⟩⟩) rfl rfl rfl rfl pre0 rfl rfl rfl (k':=9) rfl ?_
  refine ru 1 ?_
  first
  | refine a3C 15 3 8 false _ (fun hb=>a0r ty_23.h rfl omb omb (fun h=>(by first | rfl | cases h))) rfl rfl rfl rfl (a0L rfl) rfl rfl rfl (k':=11) rfl ?_
  | refine a3C 15 3 8 false _ (fun hb=>a0j ty_23.h rfl omb (fun h=>(by first | rfl | cases h))) rfl rfl rfl rfl pre0 rfl rfl rfl (k':=11) rfl ?_
  refine ru 2 ?_
  first
  | refine a3C 18 3 8 false _ (fun hb=>a0r ty_23.h rfl omb omb (fun h=>(by first | rfl | cases h))) rfl rfl rfl rfl (a0L rfl) rfl rfl rfl (k':=14) rfl ?_
  | refine a3C 18 3 8 false _ (fun hb=>a0j ty_23.h rfl omb (fun h=>(by first | rfl | cases h))) rfl rfl rfl rfl pre0 rfl rfl rfl (k':=14) rfl ?_
  refine ru 1 ?_
  refine a3C 20 3 8 false _ (fun hb=>a0e (xs:=[_,_]) (c0U p.word.length q.word.length) ⟨rfl,⟨rfl,trivial⟩⟩ ⟨fe,⟨fe,trivial⟩⟩) rfl rfl rfl rfl pre0 rfl rfl rfl (k':=16) rfl ?_
  refine ru 1 ?_
  first
  | refine a3C 22 3 8 false _ (fun hb=>a0r ty_23.h rfl omb omb (fun h=>(by first | rfl | cases h))) rfl rfl rfl rfl (a0L rfl) rfl rfl rfl (k':=18) rfl ?_
  | refine a3C 22 3 8 false _ (fun hb=>a0j ty_23.h rfl omb (fun h=>(by first | rfl | cases h))) rfl rfl rfl rfl pre0 rfl rfl rfl (k':=18) rfl ?_
  refine ru 1 ?_
  first
  | refine a3C 24 3 8 false _ (fun hb=>a0r ty_23.h rfl omb omb (fun h=>(by first | rfl | cases h))) rfl rfl rfl rfl (a0L rfl) rfl rfl rfl (k':=20) rfl ?_
  | refine a3C 24 3 8 false _ (fun hb=>a0j ty_23.h rfl omb (fun h=>(by first | rfl | cases h))) rfl rfl rfl rfl pre0 rfl rfl rfl (k':=20) rfl ?_
  refine a3C 25 3 8 false _ (fun hb=>a0e (xs:=[_,_]) (c6K p.word q.word hp hq) ⟨rfl,⟨rfl,trivial⟩⟩ ⟨fe,⟨fe,trivial⟩⟩) rfl rfl rfl rfl pre0 rfl rfl rfl (k':=21) rfl ?_
  refine b4H kr kr kr kr (c':=23) rfl ?_ sml
  refine b4a 26 3 8 false true (v:=.imm undef) (fun h=>absurd h dcd) rfl rfl rfl rfl pre0 rfl rfl rfl ?_
  refine b4a 27 3 8 false true (v:=.imm undef) (fun h=>absurd h dcd) rfl rfl rfl rfl pre0 rfl rfl rfl ?_
  refine b4a 28 3 8 false true (v:=.imm undef) (fun h=>absurd h dcd) rfl rfl rfl rfl pre0 rfl rfl rfl ?_
  refine s0 (a4O rfl rfl) ?_
  refine ru 1 ?_
  refine a2H ?_
  refine ru 2 ?_
  refine rt1 ?_
  exact a1H (by unfold a1R;rw [hk];rfl)
 ·refine ru 4 ?_
  refine d0 4 (HOp.val (v':=boolV false) (a1p rfl) ((by rw [hk];rfl))) ?_
  refine ru 1 ?_
  first
  | refine a3C 10 3 8 false _ (fun hb=>a0r ty_3.h rfl omb omb (fun h=>(by first | rfl | cases h))) rfl rfl rfl rfl (a0L rfl) rfl rfl rfl (k':=6) rfl ?_
  | refine a3C 10 3 8 false _ (fun hb=>a0j ty_3.h rfl omb (fun h=>(by first | rfl | cases h))) rfl rfl rfl rfl pre0 rfl rfl rfl (k':=6) rfl ?_
  refine ru 1 ?_
  first
  | refine a3C 12 3 8 false _ (fun hb=>a0r ty_3.h rfl omb omb (fun h=>(by first | rfl | cases h))) rfl rfl rfl rfl (a0L rfl) rfl rfl rfl (k':=8) rfl ?_
  | refine a3C 12 3 8 false _ (fun hb=>a0j ty_3.h rfl omb (fun h=>(by first | rfl | cases h))) rfl rfl rfl rfl pre0 rfl rfl rfl (k':=8) rfl ?_
  refine a3C 13 3 8 false _ (fun hb=>a0e (xs:=[_,_]) (c0U p.price q.price) ⟨rfl,⟨rfl,trivial⟩⟩ ⟨fe,⟨fe,trivial⟩⟩) rfl rfl rfl rfl pre0 rfl rfl rfl (k':=9) rfl ?_
  refine ru 1 ?_
  first
  | refine a3C 15 3 8 false _ (fun hb=>a0r ty_23.h rfl omb omb (fun h=>(by first | rfl | cases h))) rfl rfl rfl rfl (a0L rfl) rfl rfl rfl (k':=11) rfl ?_
  | refine a3C 15 3 8 false _ (fun hb=>a0j ty_23.h rfl omb (fun h=>(by first | rfl | cases h))) rfl rfl rfl rfl pre0 rfl rfl rfl (k':=11) rfl ?_
  refine ru 2 ?_
  first
  | refine a3C 18 3 8 false _ (fun hb=>a0r ty_23.h rfl omb omb (fun h=>(by first | rfl | cases h))) rfl rfl rfl rfl (a0L rfl) rfl rfl rfl (k':=14) rfl ?_
  | refine a3C 18 3 8 false _ (fun hb=>a0j ty_23.h rfl omb (fun h=>(by first | rfl | cases h))) rfl rfl rfl rfl pre0 rfl rfl rfl (k':=14) rfl ?_
  refine ru 1 ?_
  refine a3C 20 3 8 false _ (fun hb=>a0e (xs:=[_,_]) (c0U p.word.length q.word.length) ⟨rfl,⟨rfl,trivial⟩⟩ ⟨fe,⟨fe,trivial⟩⟩) rfl rfl rfl rfl pre0 rfl rfl rfl (k':=16) rfl ?_
  refine ru 1 ?_
  first
  | refine a3C 22 3 8 false _ (fun hb=>a0r ty_23.h rfl omb omb (fun h=>(by first | rfl | cases h))) rfl rfl rfl rfl (a0L rfl) rfl rfl rfl (k':=18) rfl ?_
  | refine a3C 22 3 8 false _ (fun hb=>a0j ty_23.h rfl omb (fun h=>(by first | rfl | cases h))) rfl rfl rfl rfl pre0 rfl rfl rfl (k':=18) rfl ?_
  refine ru 1 ?_
  first
  | refine a3C 24 3 8 false _ (fun hb=>a0r ty_23.h rfl omb omb (fun h=>(by first | rfl | cases h))) rfl rfl rfl rfl (a0L rfl) rfl rfl rfl (k':=20) rfl ?_
  | refine a3C 24 3 8 false _ (fun hb=>a0j ty_23.h rfl omb (fun h=>(by first | rfl | cases h))) rfl rfl rfl rfl pre0 rfl rfl rfl (k':=20) rfl ?_
  refine a3C 25 3 8 false _ (fun hb=>a0e (xs:=[_,_]) (c6K p.word q.word hp hq) ⟨rfl,⟨rfl,trivial⟩⟩ ⟨fe,⟨fe,trivial⟩⟩) rfl rfl rfl rfl pre0 rfl rfl rfl (k':=21) rfl ?_
  refine b4H kr kr kr kr (c':=23) rfl ?_ sml
  refine (b2w 13 8 false rfl rfl).seq ?_;refine (b2w 20 8 false rfl rfl).seq ?_;refine (b2w 25 8 false rfl rfl).seq ?_
  refine d2m 26 8 false (a0d (id:=26) (hs:=[_,_,_]) ei_23.h omb rfl omb ⟨rfl,rfl,rfl,rfl,⟨rfl,rfl,rfl,rfl,⟨rfl,rfl,rfl,rfl,trivial⟩⟩⟩) rfl rfl rfl rfl pre0 rfl rfl (c':=24) rfl ?_
  refine d2m 27 8 false (a7e (xs:=[_]) [(26,_)] (c8U [compareInt p.price q.price,compareInt p.word.length q.word.length,a4V p.word q.word] sml) ⟨rfl,trivial⟩ ⟨(Fz.os _ _ _ _ _ _ (List.mem_cons_self ..) rfl lrf (fun i j hi hj=>by obtain rfl:j=0:=Nat.lt_one_iff.1 hj;match i,hi with | 0,_=>exact .imm _ | 1,_=>exact .imm _ | 2,_=>exact .imm _)),trivial⟩ rfl) rfl rfl rfl rfl (a0h rfl pre0) rfl rfl (c':=25) rfl ?_
  refine c3r 28 8 false hli rfl rfl rfl rfl pre0 rfl rfl ?_
  refine s0 (b1d rfl rfl) ?_
  refine ru 1 ?_
  refine a2H ?_
  refine ru 2 ?_
  refine rt1 ?_
  exact a1H (by unfold a1R;rw [hk];rfl)
end
section
open Go.RowKit
section
variable {K:Nat→Prop} {w0 w w':World} {F0:Addr→Prop} {E:Env} {h:Nat→Option HObj}
theorem R.newB (r:R K w0 F0 E h w) (hb:Below w.heap.size w w') (id g b cap sz:Nat) (ty:TypeId) (cs:Array Value) (f:Nat→Nat→HV) (n:Nat) (vs:Nat→Nat→Value) (hg:¬ E.G g) (hsz:0 < sz) (hbs:w.heap.size≤b) (hB:Blk w' b ty cs) (hcs:cs.size=cap * sz) (hn:n≤cap) (hm:cap≤maxLen)
  (hv:∀ i j,i < n→j < sz→cs[i * sz+j]?=some (vs i j)∧(vs i j).oneCell'=true∧Rep w E (vs i j) (f i j)) :
  Ext w E w' (E.new id g b cap sz)∧R K w0 F0 (E.new id g b cap sz) (a2I h id ⟨g,n,sz,ty,0,f⟩) w':=by
 have e:Ext w E w' (E.new id g b cap sz):=Ext.new w E id g b cap sz hg _ hb.size (fun a ha=>((r.extBelow hb).F a ha).2)
 refine ⟨e,hb.os.trans r.os,hb.tape.trans r.tape,hb.output.trans r.output,Nat.le_trans r.size hb.size,fun k hk hK=>(hb.block k (Nat.lt_of_lt_of_le hk r.size)).trans (r.keep k hk hK),
  fun a ha=>⟨(r.frz a ha).1,by rw [(e.F a ha).2];exact (r.frz a ha).2⟩,r.fnew,r.klib,r.lib,fun b hm=>(hb.block b (a0Z (r.bks b hm))).trans (r.bks b hm),fun k o ho=>?_,fun k k' o o' l l' b' ho ho' hl hl' hb1 hb2=>?_⟩
 ·by_cases hk:k=id
  ·subst hk
   rw [a0v] at ho
   injection ho with ho
   subst ho
   refine ⟨_,Env.new_L _ _ _ _ _ _,rfl,.inr rfl,rfl,hsz,.inr (.inl ⟨b,cs,rfl,hB,hcs,hn,hm,fun hlt=>absurd hlt (by have:=r.size;omega),⟨vs,fun i j hi hj=>⟨(hv i j hi hj).1,(hv i j hi hj).2.1,(hv i j hi hj).2.2.ext e⟩⟩,fun k hk=>?_,Nat.zero_le _⟩)⟩
   have:=a1m (r.frz _ hk).2
   exact absurd this (by simp;omega)
  ·rw [a0s _ _ hk] at ho
   obtain ⟨l,hl,a⟩:=r.obj k o ho
   exact ⟨l,by rw [Env.new_Lne E hk];exact hl,a.ext e (fun b hb'=>hb.block b (a.lt hb')) (fun _ _ _ hF=>hF)⟩
 ·have old:∀ k o l,k≠id→a2I h id ⟨g,n,sz,ty,0,f⟩ k=some o→(E.new id g b cap sz).L k=some l→h k=some o∧E.L k=some l∧∀ b,l.A=some b→b < w.heap.size:=by
   intro k o l hk ho hl
   rw [a0s _ _ hk] at ho
   rw [Env.new_Lne E hk] at hl
   obtain ⟨l',hl',a⟩:=r.obj k o ho
   rw [hl] at hl'
   injection hl' with hl'
   subst hl'
   exact ⟨ho,hl,fun b hb'=>a.lt hb'⟩
  by_cases hk:k=id <;> by_cases hk':k'=id
  ·rw [hk,hk']
  ·subst hk
   rw [Env.new_L] at hl
   injection hl with hl
   subst hl
   have:=(old k' o' l' hk' ho' hl').2.2 b' hb2
   injection hb1 with hb1
   omega
  ·subst hk'
   rw [Env.new_L] at hl'
   injection hl' with hl'
   subst hl'
   have:=(old k o l hk ho hl).2.2 b' hb1
   injection hb2 with hb2
   omega
  ·have a1:=old k o l hk ho hl
   have a2:=old k' o' l' hk' ho' hl'
   exact r.inj k k' o o' l l' b' a1.1 a2.1 a1.2.1 a2.2.1 hb1 hb2
end
theorem c2Y {α:Type} {K:Nat→Prop} {w0 w w':World} {F0:Addr→Prop} {E:Env} {h:Nat→Option HObj} (r:R K w0 F0 E h w) {c:Nat} (hng:¬ E.G c) (id:Nat) {e:TypeId} {sz:Nat} (hs:0 < sz) {enc:α→List Value} (encF:α→Nat→HV) (hFe:∀ x j,j < sz→encF x j=.imm ((enc x).getD j undef)) (h1:∀ x,∀ u∈enc x,u.oneCell'=true) (d:α) {l:List α} {en:Ending}
  (hgv:a3V e sz enc w l en w'):∃ v E',en=.returned v∧Ext w E w' E'∧R K w0 F0 E' (a2I h id ⟨c,l.length,sz,e,0,fun i=>encF (l.getD i d)⟩) w'∧(∀ g,E'.G g→E.G g∨g=c)∧Rep w' E' v (.os id c 0 l.length):=by
 obtain ⟨A,cp,rfl,hown,hb⟩:=hgv
 have henc:=hown.1
 rcases hown.2.2 with ⟨hv,hn⟩ | ⟨b,cap,cur,hv,hbase,hblk,hn,hcap,hsz,htake⟩
 ·injection hv with hA _ hc
  subst hA;subst hc
  have hl:l=[]:=List.eq_nil_of_length_eq_zero hn
  subst hl
  have r1:=r.growSame hb
  obtain ⟨e2,r2⟩:=r1.newNil id c sz e (fun i=>encF (([]:List α).getD i d)) hng hs
  refine ⟨_,_,rfl,(r.extBelow hb).trans e2,r2,fun g hg=>hg,?_⟩
  refine .os none 0 0 id c 0 (.inr rfl) lrf (Nat.zero_le _) (fun h=>absurd h (Nat.lt_irrefl _)) (fun l hl _=>?_)
  rw [Env.place_L] at hl;injection hl with hl;subst hl
  exact ⟨rfl,fun _=>rfl⟩
 ·injection hv with hA _ hc
  subst hA;subst hc
  have hB:Blk w' b e cur:=hblk
  have hcell:∀ i j,i < l.length→j < sz→cur[i * sz+j]?=some ((enc (l.getD i d)).getD j undef)∧((enc (l.getD i d)).getD j undef).oneCell'=true:=by
   intro i j hi hj
   have hlt:=a7n (sz:=sz) hi hj
   have hg:l.getD i d=l[i]:=by simp [List.getD,List.getElem?_eq_getElem hi]
   have hj':j < (enc l[i]).length:=by rw [henc];exact hj
   have hg2:(enc l[i]).getD j undef=(enc l[i])[j]:=by simp [List.getD,List.getElem?_eq_getElem hj']
   rw [hg,hg2,←Array.getElem?_toList]
   have:=a1P henc l i j hi hj
   rw [←htake,List.getElem?_take,if_pos hlt] at this
   rw [this,List.getElem?_eq_getElem hj']
   exact ⟨rfl,h1 _ _ (List.getElem_mem hj')⟩
  obtain ⟨e2,r2⟩:=r.newB hb id c b cp sz e cur (fun i=>encF (l.getD i d)) l.length (fun i j=>(enc (l.getD i d)).getD j undef) hng hs hbase hB hsz hn hcap (fun i j hi hj=>⟨(hcell i j hi hj).1,(hcell i j hi hj).2,by show Rep _ _ _ (encF _ _);rw [hFe _ _ hj];exact .imm _⟩)
  refine ⟨_,_,rfl,e2,r2,fun g hg=>hg,?_⟩
  refine .os _ _ _ id c 0 (.inr rfl) hn hcap (fun _=>⟨b,0,rfl,fun l' hl' _=>?_⟩) (fun l' hl' _=>?_)
  ·rw [Env.new_L] at hl';injection hl' with hl';subst hl'
   exact ⟨rfl,(Nat.zero_mul _).symm⟩
  ·rw [Env.new_L] at hl';injection hl' with hl';subst hl'
   exact ⟨Nat.zero_add _,fun _=>by simp⟩
theorem c1p {α:Type} {P:Program} {ov:Nat→Option HV} {g:Nat} {d:Option Tmp} {ty:TypeId} {pos:String} {af:Array Edge} {gd:Option (Nat×Bool)} {f:FuncId} {args:List Operand} {at_:Array TypeId} {xs:List HV} {id:Nat} {e:TypeId} {sz:Nat} {enc:α→List Value} {encF:α→Nat→HV} {dflt:α} {l:List α} (hf:c6n P f) (hs:0 < sz) (hFe:∀ x j,j < sz→encF x j=.imm ((enc x).getD j undef)) (h1:∀ x,∀ u∈enc x,u.oneCell'=true)
  (hc:∀ w E vs,RepAll w E vs xs→Calls P f vs.toArray w (a3V e sz enc w l)) (hx:a1L ov args xs) :
  HOp P ⟨d,.call ⟨.value (.func f),args.toArray,at_⟩,ty,pos,af,gd⟩ ov g [] (.os id g 0 l.length) [(id,⟨g,l.length,sz,e,0,fun i=>encF (l.getD i dflt)⟩)]:=by
 refine ⟨?_⟩;intro K w0 F0 E hh a w Q N rr ht hG hBd hpre hN
 have hrep:=hx.rep (w:=w) (E:=E) (ρ:=a.eval) (fun x hv hx h=>ht x hv (by simp [Op.operands,Call.operands];exact .inr hx) h)
 unfold Oper.wp execOp
 have hargs:args.toArray.map a.eval=(args.map a.eval).toArray:=by simp
 simp only [resolve,Act.eval,Deferred.ofValue,invoke,Sem.run_bind,Sem.run_pure,Result.andThen_ok,Array.empty_append,Array.append_empty]
 rw [a0C hf]
 simp only [Oper.upon]
 have h:=hc w E (args.map a.eval) hrep
 rw [←hargs] at h
 refine Calls.mono h fun en w' hgv=>?_
 obtain ⟨v,E',rfl,e',r',hg',hv⟩:=c2Y rr hG id hs encF hFe h1 dflt hgv
 exact hN v w' E' e' r' (fun g' h=>(hg' g' h).imp (fun h=>h) (fun h=>⟨by simp,h⟩)) hv
theorem b8e {P:Program} {ov:Nat→Option HV} {g:Nat} {d:Option Tmp} {ty:TypeId} {pos:String} {af:Array Edge} {gd:Option (Nat×Bool)} {f:FuncId} {t:Nat} {args:List Operand} {at_:Array TypeId} {x r:HV} {xs ys:List HV} (hp:HPure P f ys r) (h0:ovl ov (.tmp t)=some (.bnd (.func f) x)) (hx:a1L ov args xs) (hz:FzAll [] (x::xs) ys) :
    HOp P ⟨d,.call ⟨.value (.tmp t),args.toArray,at_⟩,ty,pos,af,gd⟩ ov g [] r []:=by
  refine ⟨?_⟩;intro K w0 F0 E hh a w Q N rr ht hG hBd hpre hN
  have hrep:=hx.rep (w:=w) (E:=E) (ρ:=a.eval) (fun x hv hx h=>ht x hv (by simp [Op.operands,Call.operands];exact .inr hx) h)
  have hrec:=ht (.tmp t) _ (by simp [Op.operands,Call.operands]) h0
  unfold Oper.wp execOp
  generalize hρ:a.eval (.tmp t)=u at hrec
  cases hrec with
  | bnd _ v _ hv =>
    have hargs:#[v]++args.toArray.map a.eval=(v::args.map a.eval).toArray:=by simp
    simp only [resolve,hρ,Deferred.ofValue,invoke,Sem.run_bind,Sem.run_pure,Result.andThen_ok,Array.empty_append,Array.append_empty]
    rw [a0C hp.1]
    simp only [Oper.upon]
    have hc:=hp.calls rr [] rfl hpre (x::xs) (v::args.map a.eval) hz ⟨hv,hrep⟩
    rw [←hargs] at hc
    refine Calls.mono hc ?_
    rintro e w' ⟨v,E',rfl,e',r',hg',hv⟩
    exact hN v w' E' e' r' (fun g' h=>.inl (hg' g' h)) hv
end
section
open Go.Lib (compareInt)
open Go.RowKit
set_option maxRecDepth 100000
set_option maxHeartbeats 1000000
theorem c8I (m:List Int) (hl:m.length≤1000000) (w:World) (E:Env) (vs:List Value) (hr:RepAll w E vs [a0i m]):Calls Tryz.prog 99 vs.toArray w (a3V 3 1 a4U w m):=by
 obtain ⟨v,rfl,hv⟩:=d0G hr
 obtain ⟨A,c,rfl,hc,hm,hs⟩:=b8C 1 a4U a9k (fun x _=>intV x) b7I 0 m hv
 exact c2r A _ c _ m w rfl hs lrf omo
theorem c5f:c6n Tryz.prog 99:=⟨_,_,Tryz.func99,rfl,by kernel_rfl⟩
theorem d1b {sh:List (Nat×HObj)} {id g ty:Nat} {l:List Int} {x:Int}:Fz ((id,⟨g,l.length+1,1,ty,0,cat l.length (fun i _=>intV (l.getD i 0)) (bsf [intV x])⟩)::sh) (.os id g 0 (l.length+1)) (a0i (l++[x])):=by
 have e:a0i (l++[x])=.sl 1 (l.length+1) (a4C (l++[x])):=by show HV.sl 1 (l++[x]).length _=_;rw [List.length_append];rfl
 rw [e]
 refine .os _ _ _ _ _ _ (List.mem_cons_self ..) rfl sml fun i j hi hj=>?_
 have hj:j < 1:=hj
 obtain rfl:j=0:=by omega
 show Fz _ (cat l.length (fun i _=>intV (l.getD i 0)) (bsf [intV x]) (0+i) 0) (intV ((l++[x]).getD i 0))
 rw [Nat.zero_add]
 by_cases h:i < l.length
 ·rw [a6B h,List.getD_eq_getElem?_getD (l:=l++[x]),List.getElem?_append_left h,←List.getD_eq_getElem?_getD];exact .imm _
 ·obtain rfl:i=l.length:=by omega
  rw [a5O lrf,Nat.sub_self,List.getD_eq_getElem?_getD,List.getElem?_append_right lrf,Nat.sub_self];exact .imm _
theorem c3Y (p:Wy) (s q:Int) (hp:p.word.length≤100000) (h0:0≤p.price∧p.price≤1000000000000) (h1:0≤q∧q≤1000000):HPure Tryz.prog 60 [wyV p,intV s,intV q] (wyV (a2J p s q)):=by
 refine a0k Tryz.func60 rfl kr _ _ _ rfl 18 rfl rfl (fun w F=>?_)
 refine ru 14 ?_
 refine a2x 13 (c1p (id:=13) (xs:=[_]) (args:=[_]) (encF:=fun x _=>intV x) (dflt:=0) c5f dcd b7I c1N (c8I p.word om) ⟨rfl,trivial⟩) rfl rfl pre0 rfl rfl (k':=7) rfl ?_
 refine ru 1 ?_
 refine a2x 15 (a0d (id:=15) (hs:=[_]) ei_23.h omx rfl omx ⟨rfl,rfl,rfl,rfl,trivial⟩) rfl rfl pre0 rfl rfl (k':=9) rfl ?_
 first
 | refine a2x 16 (a0a ei_23.h omy rfl omy omy (a0D rfl omy) omy rfl) rfl rfl (a0h rfl (a0L rfl)) rfl rfl (k':=10) rfl ?_
 | refine a2x 16 (a0a ei_23.h omy rfl omy omy (a1a rfl omy) omy rfl) rfl rfl (a0h rfl (a0L rfl)) rfl rfl (k':=10) rfl ?_
 | refine a2x 16 (a0a ei_23.h omy rfl omy omy (a0Y rfl) omy rfl) rfl rfl (a0h rfl pre0) rfl rfl (k':=10) rfl ?_
 | refine a2x 16 (a0a ei_23.h omy rfl omy omy (a0G 1 (fun _ _=>default) rfl) omy rfl) rfl rfl (a0h rfl pre0) rfl rfl (k':=10) rfl ?_
 refine ru 5 ?_
 refine a5q rfl (a0H rfl rfl ty_131.h rqc rfl rfl) [(13,_)] rfl (a0h rfl pre0) ?_
 exact .agg _ _ _ (fun j hj=>by match j,hj with | 0,_=>exact .imm _ | 1,_=>exact d1b | 2,_=>exact .imm _)
theorem c8P (P:List Int) (s:Nat) (hP:P.length≤1000000):HPure Tryz.prog 59 [a0i P,intV (s:Int)] (t2 (intV (if priceOk P s=true then P.getD s 0 else 0)) (boolV (priceOk P s))):=by
 refine a0k Tryz.func59 rfl kr _ _ _ rfl 28 rfl rfl (fun w F=>?_)
 refine ru 29 ?_
 refine wdc (fun hr0 hc0=>?_) (fun hr0 hc0=>?_)
 ·skip
  have hk:priceOk P s=false:=(by rw [←Bool.not_eq_true];unfold priceOk;simp only [Bool.and_eq_true,decide_eq_true_eq];omega)
  refine ru 8 ?_
  refine rt2 ?_
  rw [hk];exact a5z (.imm _) (.imm _)
 have hk:priceOk P s=true:=(by unfold priceOk;simp only [Bool.and_eq_true,decide_eq_true_eq];omega)
 refine ru 13 ?_
 refine rt2 ?_
 rw [hk];exact a5z (a7A sml) (.imm _)
end
section
section
variable {β:Type} [DecidableEq β]
theorem c3u {Q U:List β} (h:Q.Nodup) (hs:∀ x∈Q,x∈U):Q.length≤U.length:=by
  induction Q generalizing U with
  | nil=>exact Nat.zero_le _
  | cons a r ih =>
    rw [List.nodup_cons] at h
    have ha:a∈U:=hs a (List.mem_cons_self ..)
    have:=ih (U:=U.erase a) h.2 (fun x hx=>by
      have hx2:=hs x (List.mem_cons_of_mem _ hx)
      exact (List.mem_erase_of_ne (fun e=>h.1 (by rw [←e];exact hx))).2 hx2)
    rw [List.length_erase_of_mem ha] at this
    have:0 < U.length:=List.length_pos_of_mem ha
    simp only [List.length_cons]
    omega
end
end
section
open Go.Lib (compareInt)
theorem a2A (a b:Int):(compareInt a b=-1∧a < b)∨(compareInt a b=0∧a=b)∨(compareInt a b=1∧b < a):=by
 unfold compareInt
 split
 ·exact .inl ⟨rfl,by assumption⟩
 ·split
  ·exact .inr (.inr ⟨rfl,by assumption⟩)
  ·exact .inr (.inl ⟨rfl,by omega⟩)
theorem a3o (a b:Int) (l m:List Int):a4V (a::l) (b::m)=if compareInt a b≠0 then compareInt a b else a4V l m:=rfl
theorem a3m:∀ a:List Int,a4V a a=0
  | []=>rfl
  | a :: l => by
    have h:=a2A a a
    rw [a3o,if_neg omo,a3m l]
theorem a4k:∀ a b:List Int,(a4V a b=-1∧a4V b a=1)∨(a4V a b=0∧a=b)∨(a4V a b=1∧a4V b a=-1)
  | [],[]=>.inr (.inl ⟨rfl,rfl⟩)
  | [],b::m=>.inl ⟨rfl,rfl⟩
  | a::l,[]=>.inr (.inr ⟨rfl,rfl⟩)
  | a :: l, b :: m => by
    rw [a3o,a3o]
    have h1:=a2A a b
    have h2:=a2A b a
    have h3:=a4k l m
    by_cases h0:a=b
    · subst h0
      rw [if_neg omo,if_neg omo]
      rcases h3 with h3 | h3 | h3
      · exact .inl h3
      · exact .inr (.inl ⟨h3.1,by rw [h3.2]⟩)
      · exact .inr (.inr h3)
    · rw [if_pos omo,if_pos omo]
      omega
theorem a8l:∀ a b c:List Int,a4V a b≤0→a4V b c≤0→a4V a c≤0
  | [],_,[],_,_=>Int.le_refl _
  | [],_,_::_,_,_=>(by decide:(-1:Int)≤0)
  | _::_,[],_,h,_=>absurd (show (1:Int)≤0 from h) dcd
  | _::_,_::_,[],_,h=>absurd (show (1:Int)≤0 from h) dcd
  | a :: l, b :: m, c :: n, h1, h2 => by
    rw [a3o] at h1 h2 ⊢
    have k1:=a2A a b
    have k2:=a2A b c
    have k3:=a2A a c
    by_cases e1:compareInt a b≠0
    · rw [if_pos e1] at h1
      by_cases e2:compareInt b c≠0
      · rw [if_pos e2] at h2
        rw [if_pos omo];omega
      · rw [if_pos omo];omega
    · rw [if_neg e1] at h1
      by_cases e2:compareInt b c≠0
      · rw [if_pos e2] at h2
        rw [if_pos omo];omega
      · rw [if_neg e2] at h2
        rw [if_neg omo]
        exact a8l l m n h1 h2
theorem b3q:∀ (a b:List Int) (s:Int),a.length=b.length→a4V (a++[s]) (b++[s])=a4V a b
  | [],[],s,_=>a3m [s]
  | [],_::_,_,h=>by cases h
  | _::_,[],_,h=>by cases h
  | a :: l, b :: m, s, h => by
    show a4V (a::(l++[s])) (b::(m++[s]))=_
    rw [a3o,a3o,b3q l m s (by simpa using h)]
def leW (w o:Wy):Prop:=w.price < o.price∨(w.price=o.price∧(w.word.length < o.word.length∨(w.word.length=o.word.length∧a4V w.word o.word≤0)))
theorem b6h (w o:Wy):(c5L w o < 0→leW w o)∧(¬ c5L w o < 0↔leW o w):=by
 have h1:=a2A w.price o.price
 have h2:=a2A w.word.length o.word.length
 have h3:=a4k w.word o.word
 have e:c5L w o=if compareInt w.price o.price≠0 then compareInt w.price o.price else if compareInt w.word.length o.word.length≠0 then compareInt w.word.length o.word.length else if a4V w.word o.word≠0 then a4V w.word o.word else 0:=rfl
 rw [e]
 unfold leW
 by_cases k1:compareInt w.price o.price≠0
 ·rw [if_pos k1];omega
 ·rw [if_neg k1]
  by_cases k2:compareInt w.word.length o.word.length≠0
  ·rw [if_pos k2];omega
  ·rw [if_neg k2]
   have h4:a4V o.word w.word=- a4V w.word o.word:=by
    rcases h3 with h3 | h3 | h3
    ·omega
    ·rw [h3.2,a3m];rfl
    ·omega
   by_cases k3:a4V w.word o.word≠0
   ·rw [if_pos k3];omega
   ·rw [if_neg k3];omega
theorem a3J (w:Wy):leW w w:=.inr ⟨rfl,.inr ⟨rfl,by rw [a3m];exact Int.le_refl _⟩⟩
theorem a1D {a b c:Wy} (h:leW a b) (k:leW b c):leW a c:=by
 unfold leW at h k ⊢
 rcases h with h | ⟨h,h2⟩
 ·omega
 ·rcases k with k | ⟨k,k2⟩
  ·omega
  ·refine .inr ⟨by omega,?_⟩
   rcases h2 with h2 | ⟨h2,h3⟩
   ·omega
   ·rcases k2 with k2 | ⟨k2,k3⟩
    ·omega
    ·exact .inr ⟨by omega,a8l _ _ _ h3 k3⟩
theorem b1L {a b:Wy} (h:leW a b) (s p:Int):leW (a2J a s p) (a2J b s p):=by
 unfold leW at h ⊢
 have ha:(a2J a s p).word.length=a.word.length+1:=by simp [a2J]
 have hb:(a2J b s p).word.length=b.word.length+1:=by simp [a2J]
 have pa:(a2J a s p).price=a.price+p:=rfl
 have pb:(a2J b s p).price=b.price+p:=rfl
 rw [ha,hb,pa,pb]
 rcases h with h | ⟨h,h2⟩
 ·omega
 ·refine .inr ⟨by omega,?_⟩
  rcases h2 with h2 | ⟨h2,h3⟩
  ·omega
  ·exact .inr ⟨by omega,by show a4V (a.word++[s]) (b.word++[s])≤0;rw [b3q _ _ _ h2];exact h3⟩
theorem a5j {w o:Wy}:a1R w o=false↔o.known=true∧leW o w:=by
 unfold a1R
 rw [Bool.or_eq_false_iff,Bool.not_eq_false',decide_eq_false_iff_not,(b6h w o).2]
theorem a7m {w o:Wy} (h:a1R w o=true) (hk:o.known=true):leW w o:=by
 unfold a1R at h
 rw [hk] at h
 have h:decide (c5L w o < 0)=true:=by simpa using h
 exact (b6h w o).1 (of_decide_eq_true h)
def bw (B:List Wy) (v:Nat):Wy:=B.getD v default
theorem a1d {B:List Wy} {v:Nat} {w:Wy} (h:v < B.length):bw (B.set v w) v=w:=by simp [bw,h]
theorem a2P {B:List Wy} {u v:Nat} {w:Wy} (h:u≠v):bw (B.set v w) u=bw B u:=by
 unfold bw
 rw [List.getD_eq_getElem?_getD,List.getD_eq_getElem?_getD,List.getElem?_set_ne (Ne.symm h)]
def priceW (P:List Int):List Int→Int
 | []=>0
 | s::r=>P.getD s.toNat 0+priceW P r
theorem a3X (P:List Int):∀ (w:List Int) (s:Int),priceW P (w++[s])=priceW P w+P.getD s.toNat 0
 | [],s=>by show P.getD s.toNat 0+0=0+_;omega
 | a::w,s=>by show P.getD a.toNat 0+priceW P (w++[s])=P.getD a.toNat 0+priceW P w+_;rw [a3X P w s];omega
theorem a7z (R:List (List Int)):∀ (w:List Int) (a s:Int),runX R a (w++[s])=nxT R (runX R a w) s
 | [],a,s=>rfl
 | b::w,a,s=>a7z R w (nxT R a b) s
@[reducible] def OkW (P:List Int) (u:List Int):Prop:=∀ s∈u,∃ k:Nat,s=(k:Int)∧k < 32∧priceOk P k=true
def wOk (R:List (List Int)) (P:List Int) (fr v:Nat) (w:Wy):Prop:=runX R (fr:Int) w.word=(v:Int)∧w.price=priceW P w.word∧OkW P w.word
theorem b4V {R:List (List Int)} {a:Int} {k tq:Nat} (h:nxT R a k=(tq:Int)):k < 32∧0≤a∧a < R.length:=by
 unfold nxT at h
 split at h
 ·rename_i h1;omega
 ·omega
structure WaysOk (R:List (List Int)) (P:List Int) (fr:Nat) (B:List Wy):Prop where
 len:B.length=R.length
 ok:∀ v,(bw B v).known=true→wOk R P fr v (bw B v)
 zero:∀ v,(bw B v).known=false→bw B v=Wy.zero
 wl:∀ v,(bw B v).word.length≤R.length
 best:∀ (u:List Int) (v:Nat),OkW P u→runX R (fr:Int) u=(v:Int)→(bw B v).known=true∧leW (bw B v) ⟨priceW P u,u,true⟩
theorem c0u {α:Type} {p:List α→Prop} (h0:p []) (h1:∀ l a,p l→p (l++[a])) (l:List α):p l:=by
 have:∀ m:List α,p m.reverse:=by
  intro m
  induction m with
  | nil=>exact h0
  | cons a m ih=>rw [List.reverse_cons];exact h1 _ _ ih
 rw [←List.reverse_reverse l];exact this _
def a6v:Nat→(Nat→Nat)→Nat
 | 0,_=>0
 | n+1,f=>a6v n f+f n
theorem a3z {f g:Nat→Nat}:∀ {n:Nat},(∀ i,i < n→f i≤g i)→a6v n f≤a6v n g
 | 0,_=>Nat.le_refl _
 | n+1,h=>Nat.add_le_add (a3z fun i hi=>h i omo) (h n omo)
theorem a7R {f g:Nat→Nat}:∀ {n:Nat} (j:Nat),j < n→(∀ i,i < n→f i≤g i)→f j < g j→a6v n f < a6v n g
  | 0,_,h,_,_=>absurd h (Nat.not_lt_zero _)
  | n + 1, j, hj, h, hl => by
    have h1:=h n omo
    show a6v n f+f n < a6v n g+g n
    by_cases e:j=n
    · subst e
      have h2:=a3z (f:=f) (g:=g) (n:=j) fun i hi=>h i omo
      omega
    · have:=a7R (f:=f) (g:=g) (n:=n) j omo (fun i hi=>h i omo) hl
      omega
theorem b7C {f g:Nat→Nat} {j d:Nat}:∀ {n:Nat},(∀ i,i < n→i≠j→f i≤g i)→f j≤g j+d→a6v n f≤a6v n g+d
  | 0,_,_=>Nat.zero_le _
  | n + 1, h, hl => by
    show a6v n f+f n≤a6v n g+g n+d
    by_cases e:n=j
    · subst e
      have:=a3z (f:=f) (g:=g) (n:=n) fun i hi=>h i omo omo
      omega
    · have:=b7C (n:=n) (fun i hi he=>h i omo he) hl
      have:=h n omo e
      omega
theorem b2f {f:Nat→Nat} (m:Nat):∀ n:Nat,a6v n (fun i=>m * f i)=m * a6v n f
 | 0=>rfl
 | n+1=>by show a6v n _+m * f n=m * (a6v n f+f n);rw [b2f m n,Nat.mul_add]
theorem b7y {f g:Nat→Nat}:∀ n:Nat,a6v n (fun i=>f i+g i)=a6v n f+a6v n g
 | 0=>rfl
 | n+1=>by show a6v n _+(f n+g n)=a6v n f+f n+(a6v n g+g n);rw [b7y n];omega
theorem a8t {f:Nat→Nat} (m n:Nat) (h:∀ i,i < n→f i≤m):a6v n f≤m * n:=by
 have h1:=a3z (g:=fun i=>m * 1) (n:=n) fun i hi=>by have:=h i hi;show f i≤m * 1;omega
 have h2:=b2f (f:=fun _=>1) m n
 have h3:∀ k,a6v k (fun _=>1)=k:=fun k=>by
  induction k with
  | zero=>rfl
  | succ k ih=>show a6v k _+1=k+1;rw [ih]
 rw [h3] at h2;omega
@[reducible] def c4n (w o:Wy):Prop:=w.price=o.price∧w.word.length=o.word.length∧a4V w.word o.word < 0
theorem b1g {a b c:Wy} (h:c4n a b) (k:c4n b c):c4n a c:=by
 refine ⟨h.1.trans k.1,h.2.1.trans k.2.1,?_⟩
 have h1:=a4k a.word c.word
 have h2:=a4k b.word c.word
 have h3:=k.2.2
 have h4:=h.2.2
 have h5:=a8l a.word b.word c.word omo omo
 rcases h1 with h1 | h1 | h1
 ·omega
 ·rw [h1.2] at h4
  omega
 ·omega
theorem b6S:∀ (a x y:List Int),a4V (a++x) (a++y)=a4V x y
  | [],_,_=>rfl
  | a :: l, x, y => by
    have h:=a2A a a
    show a4V (a::(l++x)) (a::(l++y))=_
    rw [a3o,if_neg omo,b6S l]
section
variable {R:List (List Int)} {P:List Int} {B:List Wy}
@[reducible] def wst (P:List Int) (B:List Wy) (u s:Nat):Wy:=a2J (bw B u) s (P.getD s 0)
open Classical in
noncomputable def b7V (R:List (List Int)) (P:List Int) (B:List Wy) (u v:Nat):Nat:=if ∃ s:Nat,nxT R u s=(v:Int)∧priceOk P s=true∧c4n (wst P B u s) (bw B v) then 1 else 0
theorem c1J (u v:Nat):b7V R P B u v≤1:=by unfold b7V;split <;> omega
noncomputable def pot (R:List (List Int)) (P:List Int) (B:List Wy):Nat→Nat→Nat
 | 0,_=>0
 | l+1,v=>a6v R.length fun u=>if (bw B u).known=true∧(bw B u).word.length=l then pot R P B l u+b7V R P B u v else 0
def lvW (R:List (List Int)) (B:List Wy) (l:Nat):Nat:=a6v R.length fun u=>if (bw B u).known=true∧(bw B u).word.length < l then 1 else 0
def lvC (R:List (List Int)) (B:List Wy) (l:Nat):Nat:=a6v R.length fun u=>if (bw B u).known=true∧(bw B u).word.length=l then 1 else 0
theorem c3G (l:Nat):lvW R B (l+1)=lvW R B l+lvC R B l:=by
  unfold lvW lvC
  rw [←b7y]
  congr 1
  funext u
  cases (bw B u).known with
  | false=>rfl
  | true =>
    simp only [true_and]
    rcases Nat.lt_trichotomy (bw B u).word.length l with h | h | h
    · rw [if_pos omo,if_pos h,if_neg omo]
    · rw [if_pos omo,if_neg omo,if_pos h]
    · rw [if_neg omo,if_neg omo,if_neg omo]
theorem c23:∀ c:Nat,c * 2 ^ c≤3 ^ c
  | 0=>by decide
  | 1=>by decide
  | 2=>by decide
  | c + 3 => by
    have h:=c23 (c+2)
    have h1:2 ^ (c+3)=2 ^ (c+2) * 2:=Nat.pow_succ ..
    have h2:3 ^ (c+3)=3 ^ (c+2) * 3:=Nat.pow_succ ..
    rw [h1,h2]
    have h3:(c+3) * (2 ^ (c+2) * 2)=2 * ((c+2) * 2 ^ (c+2))+2 * 2 ^ (c+2):=by
      generalize 2 ^ (c+2)=z
      rw [show c+3=(c+2)+1 from rfl,Nat.add_mul,←Nat.mul_assoc,Nat.mul_comm ((c+2) * z) 2]
      omega
    have h4:2 * 2 ^ (c+2)≤(c+2) * 2 ^ (c+2):=Nat.mul_le_mul_right _ omo
    omega
theorem c6h:∀ l:Nat,∃ m,1≤m∧(∀ u,pot R P B l u+1≤m)∧(m+1) * 2 ^ lvW R B l≤2 * 3 ^ lvW R B l
  | 0=>⟨1,by omega,fun _=>Nat.le_refl _,Nat.mul_le_mul_left 2 (Nat.pow_le_pow_left omo _)⟩
  | l + 1 => by
    obtain ⟨m,h1,h2,h3⟩:=c6h l
    rw [c3G]
    refine ⟨m * lvC R B l+1,by omega,fun v=>?_,?_⟩
    · unfold pot lvC
      rw [←b2f]
      refine Nat.succ_le_succ (a3z fun u _=>?_)
      split
      · have:=h2 u;have:=c1J (R:=R) (P:=P) (B:=B) u v;omega
      · exact Nat.zero_le _
    · rw [Nat.pow_add,Nat.pow_add]
      have h4:=c23 (lvC R B l)
      have h5:2 ^ lvW R B l≤3 ^ lvW R B l:=Nat.pow_le_pow_left omo _
      generalize lvC R B l=c at h4 ⊢
      generalize 2 ^ lvW R B l=X at h3 h5 ⊢
      generalize 3 ^ lvW R B l=Y at h3 h5 ⊢
      match c,h4 with
      | 0,_=>simp;omega
      | 1,_=>have:=h3;rw [Nat.add_mul] at this;simp [Nat.add_mul,←Nat.mul_assoc];omega
      | c + 2, h4 =>
        have h6:m * (c+2)+1+1≤(c+2) * (m+1):=by have e:(c+2) * (m+1)=(c+2) * m+(c+2):=Nat.mul_succ ..;rw [e,Nat.mul_comm m];omega
        have h7:=Nat.mul_le_mul h4 h3
        have h8:=Nat.mul_le_mul_right (X * 2 ^ (c+2)) h6
        have h9:(c+2) * 2 ^ (c+2) * ((m+1) * X)=(c+2) * (m+1) * (X * 2 ^ (c+2)):=by
          generalize 2 ^ (c+2)=z
          generalize c+2=d
          rw [Nat.mul_mul_mul_comm,Nat.mul_comm z X]
        have h10:3 ^ (c+2) * (2 * Y)=2 * (Y * 3 ^ (c+2)):=by
          generalize 3 ^ (c+2)=z
          rw [Nat.mul_comm,Nat.mul_assoc]
        omega
theorem c6J (hn:R.length≤30) (l v:Nat):pot R P B l v≤383502:=by
 obtain ⟨m,h1,h2,h3⟩:=c6h (R:=R) (P:=P) (B:=B) l
 have h4:lvW R B l≤R.length:=by
  have:=a8t (f:=fun u=>if (bw B u).known=true∧(bw B u).word.length < l then 1 else 0) 1 R.length (fun i _=>by split <;> omega)
  unfold lvW;omega
 obtain ⟨d,hd⟩:∃ d,lvW R B l+d=30:=⟨30 - lvW R B l,by omega⟩
 have h5:2 ^ d≤3 ^ d:=Nat.pow_le_pow_left omo _
 have h6:=Nat.mul_le_mul h3 h5
 have e2:(m+1) * 2 ^ lvW R B l * 2 ^ d=(m+1) * 2 ^ 30:=by rw [Nat.mul_assoc,←Nat.pow_add,hd]
 have e3:2 * 3 ^ lvW R B l * 3 ^ d=2 * 3 ^ 30:=by rw [Nat.mul_assoc,←Nat.pow_add,hd]
 rw [e2,e3] at h6
 have:=h2 v
 omega
theorem c9E {B':List Wy} {v u0:Nat} {w:Wy} (hv:v < B.length) (hB:B'=B.set v w) (hk:(bw B v).known=true) (hwk:w.known=true) (hw:c4n w (bw B v)) (hu:u0 < R.length) (huk:(bw B u0).known=true) (hl:(bw B u0).word.length+1=w.word.length)
    (h1:b7V R P B u0 v=1) (h0:b7V R P B' u0 v=0):∀ l x,pot R P B' l x≤pot R P B l x∧(x=v→l=w.word.length→pot R P B' l x+1≤pot R P B l x):=by
  have hne:u0≠v:=fun e=>by subst e;have:=hw.2.1;omega
  have hb0:∀ u,u≠v→bw B' u=bw B u:=fun u he=>by rw [hB,a2P he]
  have hb1:bw B' v=w:=by rw [hB,a1d hv]
  have hkn:∀ u,(bw B' u).known=(bw B u).known∧(bw B' u).word.length=(bw B u).word.length:=fun u=>by
    by_cases e:u=v
    · subst e;rw [hb1,hwk,hk];exact ⟨rfl,hw.2.1⟩
    · rw [hb0 u e];exact ⟨rfl,rfl⟩
  have hind:∀ u x,u≠v→b7V R P B' u x≤b7V R P B u x:=fun u x he=>by
    unfold b7V
    split
    · rename_i h
      obtain ⟨s,a1,a2,a3⟩:=h
      rw [if_pos]
      · exact Nat.le_refl _
      · refine ⟨s,a1,a2,?_⟩
        have a3:c4n (a2J (bw B' u) s (P.getD s 0)) (bw B' x):=a3
        show c4n (a2J (bw B u) s (P.getD s 0)) (bw B x)
        rw [hb0 u he] at a3
        by_cases e:x=v
        · subst e;rw [hb1] at a3;exact b1g a3 hw
        · rwa [hb0 x e] at a3
    · exact Nat.zero_le _
  intro l
  induction l with
  | zero=>exact fun x=>⟨Nat.le_refl _,fun _ h=>by omega⟩
  | succ l ih =>
    have ht:∀ x u,u < R.length→(if (bw B' u).known=true∧(bw B' u).word.length=l then pot R P B' l u+b7V R P B' u x else 0)≤if (bw B u).known=true∧(bw B u).word.length=l then pot R P B l u+b7V R P B u x else 0:=fun x u _=>by
      rw [(hkn u).1,(hkn u).2]
      split
      · rename_i h
        by_cases e:u=v
        · subst e
          have h5:=(ih u).2 rfl (by rw [←h.2];exact hw.2.1.symm)
          have:=c1J (R:=R) (P:=P) (B:=B') u x
          omega
        · have:=(ih u).1
          have:=hind u x e
          omega
      · exact Nat.le_refl _
    refine fun x=>⟨a3z (ht x),fun e hl'=>?_⟩
    subst e
    refine a7R u0 hu (ht x) ?_
    rw [(hkn u0).1,(hkn u0).2,if_pos ⟨huk,by omega⟩,if_pos ⟨huk,by omega⟩,h0,h1]
    have:=(ih u0).1
    omega
open Classical in
noncomputable def c0E (R:List (List Int)) (P:List Int) (B:List Wy) (fin:Nat→Prop) (u s:Nat):Nat:=if fin u∧∀ t:Nat,nxT R u s=(t:Int)→(bw B t).known=true∧(bw B t).price≤(bw B u).price+P.getD s 0 then 0 else 1
noncomputable def c3o (R:List (List Int)) (P:List Int) (B:List Wy) (fin:Nat→Prop):Nat:=a6v R.length fun u=>a6v 32 fun s=>c0E R P B fin u s
noncomputable def Phi (R:List (List Int)) (P:List Int) (B:List Wy) (fin:Nat→Prop):Nat :=
 (c3o R P B fin * (R.length+1)+a6v R.length fun v=>(bw B v).word.length) * 11505061+a6v R.length fun v=>pot R P B (bw B v).word.length v
theorem c2v {B':List Wy} {fin fin':Nat→Prop} (hf:∀ u,fin u→fin' u) (hp:∀ u,fin u→(bw B' u).price=(bw B u).price) (ht:∀ t,(bw B t).known=true→(bw B' t).known=true∧(bw B' t).price≤(bw B t).price) (u s:Nat):c0E R P B' fin' u s≤c0E R P B fin u s:=by
 unfold c0E
 split
 ·exact Nat.zero_le _
 ·rename_i h
  split
  ·rename_i h2
   refine absurd ⟨hf u h2.1,fun t e=>?_⟩ h
   obtain ⟨a1,a2⟩:=h2.2 t e
   obtain ⟨a3,a4⟩:=ht t a1
   rw [hp u h2.1]
   exact ⟨a3,by omega⟩
  ·exact Nat.le_refl _
theorem c9b {fin fin':Nat→Prop} (hf:∀ u,fin u→fin' u):Phi R P B fin'≤Phi R P B fin:=by
 have h:c3o R P B fin'≤c3o R P B fin:=a3z fun u _=>a3z fun s _=>c2v hf (fun _ _=>rfl) (fun t ht=>⟨ht,Int.le_refl _⟩) u s
 unfold Phi
 have:=Nat.mul_le_mul_right (R.length+1) h
 omega
theorem d0O (hn:R.length≤30) (fin:Nat→Prop) (hl:∀ v,v < R.length→(bw B v).word.length≤R.length):Phi R P B fin≤360000000000:=by
 have h1:c3o R P B fin≤32 * R.length:=a8t 32 _ fun u _=>by
  have:=a8t (f:=fun s=>c0E R P B fin u s) 1 32 (fun s _=>by unfold c0E;split <;> omega)
  omega
 have h2:=a8t (f:=fun v=>(bw B v).word.length) R.length R.length hl
 have h3:=a8t (f:=fun v=>pot R P B (bw B v).word.length v) 383502 R.length fun v _=>c6J hn _ _
 unfold Phi
 have h4:=Nat.mul_le_mul h1 (show R.length+1≤31 by omega)
 have h5:=Nat.mul_le_mul hn hn
 omega
theorem c8R (hn:R.length≤30) {fin:Nat→Prop} {at_ tq k:Nat} (hB:tq < B.length) (hBl:B.length=R.length) (hat:at_ < R.length) (hk32:k < 32) (hfa:fin at_) (hft:fin tq→(bw B tq).known=true∧(bw B tq).price≤(wst P B at_ k).price)
  (hak:(bw B at_).known=true) (hx:nxT R at_ k=(tq:Int)) (hp:priceOk P k=true) (hb:a1R (wst P B at_ k) (bw B tq)=true) (hwl:(wst P B at_ k).word.length≤R.length)
  (hs:∀ s:Nat,nxT R at_ s=(tq:Int)→priceOk P s=true→s < k→(bw B tq).known=true∧leW (bw B tq) (wst P B at_ s)):Phi R P (B.set tq (wst P B at_ k)) fin+1≤Phi R P B fin:=by
 generalize hw:wst P B at_ k=w at hft hb hwl ⊢
 have wp:w.price=(bw B at_).price+P.getD k 0:=by rw [←hw];rfl
 have ww:w.word=(bw B at_).word++[(k:Int)]:=by rw [←hw];rfl
 have wk:w.known=true:=by rw [←hw];rfl
 have htr:tq < R.length:=by omega
 have hle:(bw B tq).known=true→leW w (bw B tq):=fun h=>a7m hb h
 have hnl:(bw B tq).known=true→¬ leW (bw B tq) w:=fun h h2=>by rw [a5j.2 ⟨h,h2⟩] at hb;cases hb
 have ha:∀ u s,c0E R P (B.set tq w) fin u s≤c0E R P B fin u s:=c2v (fun _ h=>h)
  (fun u hu=>by
   by_cases e:u=tq
   ·subst e
    obtain ⟨h1,h2⟩:=hft hu
    have:=hle h1
    rw [a1d hB];unfold leW at this;omega
   ·rw [a2P e])
  (fun t ht=>by
   by_cases e:t=tq
   ·subst e
    have:=hle ht
    rw [a1d hB];exact ⟨wk,by unfold leW at this;omega⟩
   ·rw [a2P e];exact ⟨ht,Int.le_refl _⟩)
 have hA:c3o R P (B.set tq w) fin≤c3o R P B fin:=a3z fun u _=>a3z fun s _=>ha u s
 have hpt:=a8t (f:=fun v=>pot R P (B.set tq w) (bw (B.set tq w) v).word.length v) 383502 R.length fun v _=>c6J hn _ _
 have hL:∀ v,v≠tq→(bw (B.set tq w) v).word.length≤(bw B v).word.length:=fun v e=>by rw [a2P e];exact Nat.le_refl _
 unfold Phi
 by_cases h1:(bw B tq).known=true∧(bw B tq).price≤w.price
 ·have h2:=hle h1.1
  have h3:=hnl h1.1
  unfold leW at h2
  have hA2:=Nat.mul_le_mul_right (R.length+1) hA
  rcases Nat.lt_or_ge w.word.length (bw B tq).word.length with h4 | h4
  ·have h5:=a7R (f:=fun v=>(bw (B.set tq w) v).word.length) (g:=fun v=>(bw B v).word.length) tq htr (fun v _=>by
    by_cases e:v=tq
    ·subst e;rw [a1d hB];omega
    ·exact hL v e) (by rw [a1d hB];exact h4)
   omega
  ·have hx9:c4n w (bw B tq):=by
    refine ⟨by omega,by omega,?_⟩
    have:=a4k w.word (bw B tq).word
    rcases this with h | h | h
    ·omega
    ·exact absurd (.inr ⟨by omega,.inr ⟨by omega,by rw [h.2,a3m];exact Int.le_refl _⟩⟩) h3
    ·omega
   have i1:b7V R P B at_ tq=1:=by unfold b7V;rw [if_pos ⟨k,hx,hp,by rw [hw];exact hx9⟩]
   have hne:at_≠tq:=fun e=>by
    subst e
    have:=hx9.2.1;rw [ww,List.length_append,List.length_singleton] at this;omega
   have i0:b7V R P (B.set tq w) at_ tq=0:=by
    unfold b7V
    rw [if_neg]
    rintro ⟨s,a1,a2,a3⟩
    have a3:c4n (a2J (bw (B.set tq w) at_) s (P.getD s 0)) (bw (B.set tq w) tq):=a3
    rw [a1d hB,a2P hne] at a3
    rcases Nat.lt_or_ge s k with hsk | hsk
    ·obtain ⟨b1,b2⟩:=hs s a1 a2 hsk
     obtain ⟨c1,c2,c3⟩:=b1g a3 hx9
     have c4:=a4k (a2J (bw B at_) s (P.getD s 0)).word (bw B tq).word
     unfold leW wst at b2
     omega
    ·have a4:=a3.2.2
     rw [ww] at a4
     have a5:a4V ((bw B at_).word++[(s:Int)]) ((bw B at_).word++[(k:Int)]) < 0:=a4
     rw [b6S,a3o] at a5
     have a6:=a2A (s:Int) k
     by_cases a7:compareInt (s:Int) k≠0
     ·rw [if_pos a7] at a5;omega
     ·rw [if_neg a7] at a5;exact absurd a5 dcd
   have hq:=c9E (R:=R) (P:=P) hB rfl h1.1 wk hx9 hat hak (by rw [ww];simp) i1 i0
   have h6:=a3z (f:=fun v=>(bw (B.set tq w) v).word.length) (g:=fun v=>(bw B v).word.length) (n:=R.length) (fun v _=>by
    by_cases e:v=tq
    ·subst e;rw [a1d hB];omega
    ·exact hL v e)
   have h7:=a7R (f:=fun v=>pot R P (B.set tq w) (bw (B.set tq w) v).word.length v) (g:=fun v=>pot R P B (bw B v).word.length v) tq htr (fun v _=>by
    by_cases e:v=tq
    ·subst e;rw [a1d hB,hx9.2.1];exact (hq _ _).1
    ·rw [a2P e];exact (hq _ _).1) (by rw [a1d hB,←hx9.2.1];exact (hq _ tq).2 rfl rfl)
   omega
 ·have h2:∀ u,u < R.length→a6v 32 (fun s=>c0E R P (B.set tq w) fin u s)≤a6v 32 (fun s=>c0E R P B fin u s):=fun u _=>a3z fun s _=>ha u s
  have hnf:¬ fin tq:=fun h=>h1 (hft h)
  have hne:at_≠tq:=fun e=>by subst e;exact hnf hfa
  have h3:c3o R P (B.set tq w) fin < c3o R P B fin:=by
   refine a7R at_ hat h2 (a7R k hk32 (fun s _=>ha at_ s) ?_)
   unfold c0E
   rw [if_pos,if_neg]
   ·omega
   ·rintro ⟨_,h⟩
    have:=h tq hx
    rw [←wp] at this
    exact h1 this
   ·refine ⟨hfa,fun t e=>?_⟩
    rw [hx] at e
    obtain rfl:tq=t:=by omega
    rw [a1d hB,a2P hne,wp]
    exact ⟨wk,Int.le_refl _⟩
  have h4:=b7C (f:=fun v=>(bw (B.set tq w) v).word.length) (g:=fun v=>(bw B v).word.length) (j:=tq) (d:=R.length) (n:=R.length) (fun v _ e=>hL v e) (by rw [a1d hB];omega)
  have h5:=Nat.mul_le_mul_right (R.length+1) (show c3o R P (B.set tq w) fin+1≤c3o R P B fin from h3)
  rw [Nat.add_mul] at h5
  omega
end
theorem a4G (P:List Int):∀ a b:List Int,priceW P (a++b)=priceW P a+priceW P b
 | [],b=>by show priceW P b=0+_;omega
 | s::a,b=>by show P.getD s.toNat 0+priceW P (a++b)=P.getD s.toNat 0+priceW P a+_;rw [a4G P a b];omega
theorem a3O {P:List Int} {k:Nat} (h:priceOk P k=true):0≤P.getD k 0∧P.getD k 0≤1000000:=by
 unfold priceOk at h
 simp only [Bool.and_eq_true,decide_eq_true_eq] at h
 exact ⟨h.1.2,h.2⟩
theorem a5I (P:List Int):∀ l:List Int,OkW P l→0≤priceW P l∧priceW P l≤1000000 * l.length
  | [],_=>⟨Int.le_refl _,by simp [priceW]⟩
  | a :: l, h => by
    obtain ⟨k,rfl,_,hk⟩:=h a (List.mem_cons_self ..)
    have ih:=a5I P l fun x hx=>h x (List.mem_cons_of_mem _ hx)
    have:=a3O hk
    show 0≤P.getD ((k:Int)).toNat 0+priceW P l∧P.getD ((k:Int)).toNat 0+priceW P l≤1000000 * ((l.length+1:Nat):Int)
    rw [Int.toNat_natCast];omega
theorem a8W (R:List (List Int)):∀ (x y:List Int) (a:Int),runX R a (x++y)=runX R (runX R a x) y
 | [],y,a=>rfl
 | b::x,y,a=>a8W R x y (nxT R a b)
theorem OkW.take {P w:List Int} (h:OkW P w) (i:Nat):OkW P (w.take i):=fun s hs=>h s (List.mem_of_mem_take hs)
theorem OkW.drop {P w:List Int} (h:OkW P w) (i:Nat):OkW P (w.drop i):=fun s hs=>h s (List.mem_of_mem_drop hs)
theorem OkW.app {P a b:List Int} (h:OkW P a) (k:OkW P b):OkW P (a++b):=fun s hs=>(List.mem_append.1 hs).elim (h s) (k s)
theorem pig {n m:Nat} (f:Nat→Int) (h:∀ i,i < m→0≤f i∧f i < n) (hd:∀ i j,i < j→j < m→f i≠f j):m≤n:=by
 have h1:((List.range m).map fun i=>(f i).toNat).Nodup:=by
  refine List.pairwise_map.2 (List.Pairwise.imp_of_mem ?_ List.pairwise_lt_range)
  intro a b ha hb hab
  have ha:=h a (List.mem_range.1 ha)
  have hb':=h b (List.mem_range.1 hb)
  have:=hd a b hab (List.mem_range.1 hb)
  omega
 have:=c3u (U:=List.range n) h1 (fun x hx=>by
  obtain ⟨i,hi,rfl⟩:=List.mem_map.1 hx
  have:=h i (List.mem_range.1 hi)
  exact List.mem_range.2 omo)
 rwa [List.length_map,List.length_range,List.length_range] at this
section
variable {R:List (List Int)} {P:List Int} {fr:Nat} {B:List Wy}
theorem c6G:∀ {w:List Int} {a:Int} {v:Nat},OkW P w→v < R.length→runX R a w=(v:Int)→0≤a∧a < R.length
  | [],a,v,_,hv,h=>by have h:a=(v:Int):=h;omega
  | s :: w, a, v, hw, hv, h => by
    have h:runX R (nxT R a s) w=(v:Int):=h
    obtain ⟨k,rfl,_⟩:=hw s (List.mem_cons_self ..)
    have h1:=c6G (fun x hx=>hw x (List.mem_cons_of_mem _ hx)) hv h
    obtain ⟨t,ht⟩:∃ t:Nat,nxT R a k=(t:Int):=⟨(nxT R a k).toNat,by omega⟩
    exact (b4V ht).2
theorem d3Y:∀ (m:Nat) (u:List Int) (v:Nat),u.length≤m→OkW P u→v < R.length→runX R (fr:Int) u=(v:Int)→∃ u',OkW P u'∧runX R (fr:Int) u'=(v:Int)∧u'.length < R.length∧leW ⟨priceW P u',u',true⟩ ⟨priceW P u,u,true⟩:=by
  intro m
  induction m with
  | zero =>
    intro u v hm hu hv h
    exact ⟨u,hu,h,by omega,a3J _⟩
  | succ m ih =>
    intro u v hm hu hv h
    rcases Nat.lt_or_ge u.length R.length with hl | hl
    · exact ⟨u,hu,h,hl,a3J _⟩
    · have:∃ i j,i < j∧j < u.length+1∧runX R (fr:Int) (u.take i)=runX R (fr:Int) (u.take j):=Classical.byContradiction fun hc=>by
        have:=pig (n:=R.length) (m:=u.length+1) (fun i=>runX R (fr:Int) (u.take i)) (fun i _=>by
          have e:runX R (runX R (fr:Int) (u.take i)) (u.drop i)=(v:Int):=by rw [←a8W,List.take_append_drop];exact h
          exact c6G (hu.drop i) hv e) (fun i j h1 h2 e=>hc ⟨i,j,h1,h2,e⟩)
        omega
      obtain ⟨i,j,h1,h2,e⟩:=this
      have hl2:(u.take i++u.drop j).length < u.length:=by rw [List.length_append,List.length_take,List.length_drop];omega
      have hp:priceW P u=priceW P (u.take j)+priceW P (u.drop j):=by rw [←a4G,List.take_append_drop]
      have hpj:priceW P (u.take j)=priceW P ((u.take j).take i)+priceW P ((u.take j).drop i):=by rw [←a4G,List.take_append_drop]
      rw [List.take_take,Nat.min_eq_left omo] at hpj
      have hpb:=(a5I P _ ((hu.take j).drop i)).1
      obtain ⟨u',a1,a2,a3,a4⟩:=ih (u.take i++u.drop j) v omo ((hu.take i).app (hu.drop j)) hv (by rw [a8W,e,←a8W,List.take_append_drop];exact h)
      refine ⟨u',a1,a2,a3,a1D a4 ?_⟩
      have e2:priceW P (u.take i++u.drop j)=priceW P (u.take i)+priceW P (u.drop j):=a4G ..
      unfold leW
      dsimp only
      omega
structure WB (R:List (List Int)) (P:List Int) (fr:Nat) (B:List Wy):Prop where
 len:B.length=R.length
 ok:∀ v,(bw B v).known=true→wOk R P fr v (bw B v)
 zero:∀ v,(bw B v).known=false→bw B v=Wy.zero
 frm:bw B fr=⟨0,[],true⟩
 pre:∀ v,(bw B v).known=true→∀ i,i≤(bw B v).word.length→∃ u:Nat,runX R (fr:Int) ((bw B v).word.take i)=(u:Int)∧(bw B u).known=true∧leW (bw B u) ⟨priceW P ((bw B v).word.take i),(bw B v).word.take i,true⟩
 nod:∀ v,(bw B v).known=true→∀ i j,i < j→j≤(bw B v).word.length→runX R (fr:Int) ((bw B v).word.take i)≠runX R (fr:Int) ((bw B v).word.take j)
theorem d2h {v:Nat} (h:B.length≤v):bw B v=Wy.zero:=by unfold bw;rw [List.getD_eq_getElem?_getD,List.getElem?_eq_none h];rfl
theorem WB.lt (h:WB R P fr B) {v:Nat} (hk:(bw B v).known=true):v < R.length:=by
 rcases Nat.lt_or_ge v B.length with h1 | h1
 ·rw [←h.len];exact h1
 ·rw [d2h h1] at hk;cases hk
theorem WB.wl (h:WB R P fr B) {v:Nat} (hk:(bw B v).known=true):(bw B v).word.length+1≤R.length:=by
 refine pig (fun i=>runX R (fr:Int) ((bw B v).word.take i)) (fun i hi=>?_) (fun i j h1 h2=>h.nod v hk i j h1 omo)
 obtain ⟨u,h1,h2,_⟩:=h.pre v hk i omo
 have:=h.lt h2
 omega
theorem WB.wl0 (h:WB R P fr B) (v:Nat):(bw B v).word.length≤R.length:=by
 cases hk:(bw B v).known with
 | true=>have:=h.wl hk;omega
 | false=>rw [h.zero v hk];exact Nat.zero_le _
theorem c8x {u k:Nat} (hp:priceOk P k=true):leW (bw B u) (wst P B u k):=by
 have h1:=a3O hp
 have h2:(wst P B u k).word.length=(bw B u).word.length+1:=by simp [a2J]
 have h3:(wst P B u k).price=(bw B u).price+P.getD k 0:=rfl
 unfold leW
 omega
theorem WB.upd (h:WB R P fr B) {at_ tq k:Nat} (hat:(bw B at_).known=true) (hn:nxT R at_ k=(tq:Int)) (hp:priceOk P k=true) (hb:a1R (wst P B at_ k) (bw B tq)=true) (htR:tq < R.length):WB R P fr (B.set tq (wst P B at_ k)):=by
 have hok:=h.ok at_ hat
 have htB:tq < B.length:=by rw [h.len];exact htR
 generalize hw:wst P B at_ k=w at hb ⊢
 have wp:w.price=(bw B at_).price+P.getD k 0:=by rw [←hw];rfl
 have ww:w.word=(bw B at_).word++[(k:Int)]:=by rw [←hw];rfl
 have wk:w.known=true:=by rw [←hw];rfl
 have wl:w.word.length=(bw B at_).word.length+1:=by rw [ww];simp
 have hle:(bw B tq).known=true→leW w (bw B tq):=fun hk=>a7m hb hk
 have hnt:∀ i,i≤(bw B at_).word.length→runX R (fr:Int) ((bw B at_).word.take i)≠(tq:Int):=fun i hi e=>by
  obtain ⟨u,h1,h2,h3⟩:=h.pre at_ hat i hi
  obtain rfl:u=tq:=by omega
  have h4:leW ⟨priceW P ((bw B at_).word.take i),(bw B at_).word.take i,true⟩ w:=by
   have h5:priceW P (bw B at_).word=priceW P ((bw B at_).word.take i)+priceW P ((bw B at_).word.drop i):=by rw [←a4G,List.take_append_drop]
   have h6:=(a5I P _ (OkW.drop hok.2.2 i)).1
   have h7:=hok.2.1
   have h8:=a3O hp
   have h9:((bw B at_).word.take i).length≤(bw B at_).word.length:=by rw [List.length_take];omega
   unfold leW
   dsimp only
   omega
  have:=a5j.2 ⟨h2,a1D h3 h4⟩
  rw [hb] at this;cases this
 have tk1:∀ i,i≤(bw B at_).word.length→w.word.take i=(bw B at_).word.take i:=fun i hi=>by rw [ww,List.take_append_of_le_length hi]
 have tk2:w.word.take ((bw B at_).word.length+1)=w.word:=by rw [←wl];exact List.take_length
 have rw_:runX R (fr:Int) w.word=(tq:Int):=by rw [ww,a7z,hok.1,hn]
 have hkn:∀ u,(bw B u).known=true→(bw (B.set tq w) u).known=true∧leW (bw (B.set tq w) u) (bw B u):=fun u hu=>by
  by_cases e:u=tq
  ·subst e;rw [a1d htB];exact ⟨wk,hle hu⟩
  ·rw [a2P e];exact ⟨hu,a3J _⟩
 have pw:priceW P w.word=w.price:=by rw [ww,a3X,Int.toNat_natCast,wp,hok.2.1]
 refine ⟨by rw [List.length_set];exact h.len,fun v hk=>?_,fun v hk=>?_,?_,fun v hk i hi=>?_,fun v hk i j h1 h2=>?_⟩
 ·by_cases e:v=tq
  ·subst e
   rw [a1d htB]
   refine ⟨rw_,pw.symm,?_⟩
   rw [ww]
   exact OkW.app hok.2.2 fun s hs=>by rw [List.mem_singleton.1 hs];exact ⟨k,rfl,(b4V hn).1,hp⟩
  ·rw [a2P e] at hk ⊢;exact h.ok v hk
 ·by_cases e:v=tq
  ·subst e;rw [a1d htB,wk] at hk;cases hk
  ·rw [a2P e] at hk ⊢;exact h.zero v hk
 ·have e:fr≠tq:=fun e=>hnt 0 (Nat.zero_le _) (by rw [←e];rfl)
  rw [a2P e];exact h.frm
 ·by_cases e:v=tq
  ·subst e
   rw [a1d htB] at hi ⊢
   rcases Nat.lt_or_ge (bw B at_).word.length i with h1 | h1
   ·obtain rfl:i=(bw B at_).word.length+1:=by omega
    rw [tk2]
    refine ⟨v,rw_,by rw [a1d htB];exact wk,?_⟩
    rw [a1d htB]
    exact .inr ⟨pw.symm,.inr ⟨rfl,by rw [a3m];exact Int.le_refl _⟩⟩
   ·rw [tk1 i h1]
    obtain ⟨u,a1,a2,a3⟩:=h.pre at_ hat i h1
    exact ⟨u,a1,(hkn u a2).1,a1D (hkn u a2).2 a3⟩
  ·rw [a2P e] at hk hi ⊢
   obtain ⟨u,a1,a2,a3⟩:=h.pre v hk i hi
   exact ⟨u,a1,(hkn u a2).1,a1D (hkn u a2).2 a3⟩
 ·by_cases e:v=tq
  ·subst e
   rw [a1d htB] at h2 ⊢
   rcases Nat.lt_or_ge (bw B at_).word.length j with h3 | h3
   ·obtain rfl:j=(bw B at_).word.length+1:=by omega
    rw [tk2,rw_,tk1 i omo]
    exact hnt i omo
   ·rw [tk1 i omo,tk1 j h3];exact h.nod at_ hat i j h1 h3
  ·rw [a2P e] at hk h2 ⊢;exact h.nod v hk i j h1 h2
@[reducible] def rlx (R:List (List Int)) (P:List Int) (B:List Wy) (v k:Nat):Prop:=∀ tq:Nat,nxT R v k=(tq:Int)→priceOk P k=true→(bw B tq).known=true∧leW (bw B tq) (wst P B v k)
theorem c0g {u j tq:Nat} {w:Wy} (htB:tq < B.length) (wk:w.known=true) (hle:(bw B tq).known=true→leW w (bw B tq)) (hu:u≠tq) (h:rlx R P B u j):rlx R P (B.set tq w) u j:=fun t hn hp=>by
 obtain ⟨h1,h2⟩:=h t hn hp
 show _∧leW _ (a2J (bw (B.set tq w) u) j (P.getD j 0))
 rw [a2P hu]
 by_cases e:t=tq
 ·subst e;rw [a1d htB];exact ⟨wk,a1D (hle h1) h2⟩
 ·rw [a2P e];exact ⟨h1,h2⟩
theorem WB.done (h:WB R P fr B) (hr:∀ v,(bw B v).known=true→∀ k,rlx R P B v k):WaysOk R P fr B:=by
 refine ⟨h.len,h.ok,h.zero,h.wl0,fun u=>?_⟩
 refine c0u (p:=fun u=>∀ v:Nat,OkW P u→runX R (fr:Int) u=(v:Int)→(bw B v).known=true∧leW (bw B v) ⟨priceW P u,u,true⟩) ?_ ?_ u
 ·intro v _ hr
  have hr:(fr:Int)=(v:Int):=hr
  obtain rfl:fr=v:=by omega
  rw [h.frm];exact ⟨rfl,a3J _⟩
 ·intro l a ih v hs hr2
  obtain ⟨k,rfl,hk32,hk⟩:=hs a (List.mem_append.2 (.inr (List.mem_singleton_self _)))
  rw [a7z] at hr2
  have hin:=b4V hr2
  obtain ⟨q,hq⟩:∃ q:Nat,runX R (fr:Int) l=(q:Int):=⟨(runX R (fr:Int) l).toNat,by omega⟩
  rw [hq] at hr2
  obtain ⟨h1,h2⟩:=ih q (fun s hs'=>hs s (List.mem_append.2 (.inl hs'))) hq
  obtain ⟨h3,h4⟩:=hr q h1 k v hr2 hk
  refine ⟨h3,a1D h4 ?_⟩
  have:=b1L h2 (k:Int) (P.getD k 0)
  rw [a3X,Int.toNat_natCast]
  exact this
def a9E (n fr:Nat):List Wy:=(List.replicate n Wy.zero).set fr ⟨0,[],true⟩
theorem c1b (n v:Nat):bw (List.replicate n Wy.zero) v=Wy.zero:=by
 unfold bw
 rw [List.getD_eq_getElem?_getD,List.getElem?_replicate]
 split <;> rfl
theorem WB.begin (hf:fr < R.length):WB R P fr (a9E R.length fr)∧∀ u,(bw (a9E R.length fr) u).known=true→u=fr:=by
 have hl:(List.replicate R.length Wy.zero).length=R.length:=List.length_replicate ..
 have e1:bw (a9E R.length fr) fr=⟨0,[],true⟩:=a1d (by rw [hl];exact hf)
 have e2:∀ u,u≠fr→bw (a9E R.length fr) u=Wy.zero:=fun u hu=>by unfold a9E;rw [a2P hu,c1b]
 have hk:∀ u,(bw (a9E R.length fr) u).known=true→u=fr:=fun u hu=>Classical.byContradiction fun h9=>by rw [e2 u h9] at hu;cases hu
 refine ⟨⟨by unfold a9E;rw [List.length_set,hl],fun v h=>?_,fun v h=>?_,e1,fun v h i hi=>?_,fun v h i j h1 h2=>?_⟩,hk⟩
 ·obtain rfl:=hk v h
  rw [e1];exact ⟨rfl,rfl,fun s hs=>by cases hs⟩
 ·by_cases hvf:v=fr
  ·subst hvf;rw [e1] at h;cases h
  ·exact e2 v hvf
 ·obtain rfl:=hk v h
  rw [e1];exact ⟨v,by simp [runX],by rw [e1],by rw [e1];simp;exact a3J _⟩
 ·obtain rfl:=hk v h
  rw [e1] at h2;simp at h2;omega
@[reducible] def wtg (B:List Wy) (Q:List One) (v:Nat):Prop:=∃ x∈Q,x.thing=(v:Int)∧x.key=(bw B v).price
structure ZB (R:List (List Int)) (P:List Int) (fr:Nat) (B:List Wy) (Q:List One) (came K:Int) (fin:Nat→Prop):Prop extends WB R P fr B where
 hn:R.length≤30
 item:∀ x∈Q,K≤x.key∧∃ v:Nat,x.thing=(v:Int)∧(bw B v).known=true∧(bw B v).price≤x.key
 fink:∀ v,fin v→(bw B v).known=true∧(bw B v).price≤K
 qn:(Q.length:Int)≤came
 hp:HeapN (at_ Q) Q.length
 ph:came+(Phi R P B fin:Int)≤400000000000
structure ZO (R:List (List Int)) (P:List Int) (fr:Nat) (B:List Wy) (Q:List One) (came K:Int) (fin:Nat→Prop):Prop extends ZB R P fr B Q came K fin where
 sett:∀ u,(bw B u).known=true→wtg B Q u∨∀ k,rlx R P B u k
structure ZI (R:List (List Int)) (P:List Int) (fr v:Nat) (S:List Int) (m0:Nat) (B:List Wy) (Q:List One) (came K:Int) (fin:Nat→Prop) (i:Nat):Prop extends ZB R P fr B Q came K fin where
 fv:fin v
 vk:(bw B v).price=K
 sett:∀ u,u≠v→(bw B u).known=true→wtg B Q u∨∀ k,rlx R P B u k
 cur:∀ k:Nat,(k:Int)∈S.take i→rlx R P B v k
 ms:Q.length+2 * Phi R P B fin≤m0
variable {v:Nat} {S:List Int} {m0 i:Nat} {K came:Int} {fin:Nat→Prop} {Q Q':List One}
theorem b6N {S:List Int} {i:Nat} {x:Int} (hi:i < S.length) (h:x∈S.take (i+1)):x∈S.take i∨x=S.getD i 0:=by
 rw [List.take_succ_eq_append_getElem hi] at h
 rcases List.mem_append.1 h with h | h
 ·exact .inl h
 ·right;rw [List.mem_singleton.1 h,List.getD_eq_getElem?_getD,List.getElem?_eq_getElem hi];rfl
theorem ZI.next (h:ZI R P fr v S m0 B Q came K fin i) {k:Nat} (hi:i < S.length) (hs:S.getD i 0=(k:Int)) (hk:rlx R P B v k):ZI R P fr v S m0 B Q came K fin (i+1) :=
  { h with
    cur:=fun j hj=>(b6N hi hj).elim (h.cur j) fun e=>by
      rw [hs] at e
      obtain rfl:j=k:=by omega
      exact hk }
theorem ZI.skip (h:ZI R P fr v S m0 B Q came K fin i) {k:Nat} (hi:i < S.length) (hs:S.getD i 0=(k:Int)) (hk:priceOk P k=false):ZI R P fr v S m0 B Q came K fin (i+1) :=
 h.next hi hs fun tq _ hp=>by rw [hk] at hp;cases hp
theorem ZI.keep (h:ZI R P fr v S m0 B Q came K fin i) {k tq:Nat} (hi:i < S.length) (hs:S.getD i 0=(k:Int)) (hn:nxT R v k=(tq:Int)) (hb:a1R (wst P B v k) (bw B tq)=false):ZI R P fr v S m0 B Q came K fin (i+1) :=
 h.next hi hs fun t hn' _=>by
  rw [hn] at hn'
  obtain rfl:tq=t:=by omega
  exact a5j.1 hb
theorem ZI.better (h:ZI R P fr v S m0 B Q came K fin i) {k tq:Nat} (hi:i < S.length) (hs:S.getD i 0=(k:Int)) (htR:tq < R.length) (hn:nxT R v k=(tq:Int)) (hp:priceOk P k=true) (hso:∀ s:Nat,s < k→nxT R v s=(tq:Int)→(s:Int)∈S.take i)
  (hb:a1R (wst P B v k) (bw B tq)=true) (hQ:Q'.Perm (Q++[⟨(bw B v).price+P.getD k 0,came,(tq:Int)⟩])) (hh:HeapN (at_ Q') Q'.length):ZI R P fr v S m0 (B.set tq (wst P B v k)) Q' (came+1) K fin (i+1):=by
 have hvk:=(h.fink v h.fv).1
 have htB:tq < B.length:=by rw [h.len];exact htR
 have hP1:=a3O hp
 have hle:(bw B tq).known=true→leW (wst P B v k) (bw B tq):=fun hk=>a7m hb hk
 have wp:(wst P B v k).price=(bw B v).price+P.getD k 0:=rfl
 have hlp:(bw B tq).known=true→(wst P B v k).price≤(bw B tq).price:=fun hk=>by have:=hle hk;unfold leW at this;omega
 have hne:v≠tq:=fun e=>by
  subst e
  have:=a5j.2 ⟨hvk,c8x (B:=B) (u:=v) hp⟩
  rw [hb] at this;cases this
 have hW:=h.toWB.upd hvk hn hp hb htR
 have hvw:=h.toWB.wl hvk
 have hd:=c8R h.hn (fin:=fin) htB h.len (h.toWB.lt hvk) (b4V hn).1 h.fv (fun hf=>⟨(h.fink tq hf).1,by have:=(h.fink tq hf).2;have:=h.vk;omega⟩) hvk hn hp hb (by simp [a2J];omega) (fun s h1 h2 h3=>h.cur s (hso s h3 h1) tq h1 h2)
 have hql:Q'.length=Q.length+1:=by rw [hQ.length_eq];simp
 have hms:=h.ms
 have hph:=h.ph
 have hqn:=h.qn
 have hvK:=h.vk
 refine { hW with hn:=h.hn,item:=fun x hx=>?_,fink:=fun u hu=>?_,qn:=by omega,hp:=hh,ph:=by omega,fv:=h.fv,vk:=by rw [a2P hne];exact h.vk,sett:=fun u huv hk=>?_,cur:=fun j hj=>?_,ms:=by omega }
 ·rcases List.mem_append.1 (hQ.mem_iff.1 hx) with hx | hx
  ·obtain ⟨h1,u,h2,h4,h5⟩:=h.item x hx
   refine ⟨h1,u,h2,?_⟩
   by_cases e:u=tq
   ·subst e;rw [a1d htB];exact ⟨rfl,by have:=hlp h4;omega⟩
   ·rw [a2P e];exact ⟨h4,h5⟩
  ·rw [List.mem_singleton.1 hx]
   exact ⟨by show K≤(bw B v).price+P.getD k 0;omega,tq,rfl,by rw [a1d htB];exact rfl,by rw [a1d htB];exact Int.le_refl _⟩
 ·by_cases e:u=tq
  ·subst e;rw [a1d htB];exact ⟨rfl,by have:=hlp (h.fink u hu).1;have:=(h.fink u hu).2;omega⟩
  ·rw [a2P e];exact h.fink u hu
 ·by_cases e:u=tq
  ·subst e
   exact .inl ⟨_,hQ.mem_iff.2 (List.mem_append.2 (.inr (List.mem_singleton_self _))),rfl,by rw [a1d htB];rfl⟩
  ·rw [a2P e] at hk
   rcases h.sett u huv hk with ⟨x,h1,h2,h3⟩ | h1
   ·exact .inl ⟨x,hQ.mem_iff.2 (List.mem_append.2 (.inl h1)),h2,by rw [a2P e];exact h3⟩
   ·exact .inr fun j=>c0g htB rfl hle e (h1 j)
 ·rcases b6N hi hj with h1 | h1
  ·exact c0g htB rfl hle hne (h.cur j h1)
  ·rw [hs] at h1
   obtain rfl:j=k:=by omega
   intro t hn' _
   rw [hn] at hn'
   obtain rfl:tq=t:=by omega
   show _∧leW _ (a2J (bw (B.set tq _) v) j (P.getD j 0))
   rw [a1d htB,a2P hne]
   exact ⟨rfl,a3J _⟩
theorem ZI.start (h:ZO R P fr B Q came K fin) {x:One} (hQ:(x::Q').Perm Q) (hh:HeapN (at_ Q') Q'.length) (hmin:∀ y∈Q,x.key≤y.key) (hx:x.thing=(v:Int)) (hs:x.key=(bw B v).price) (S:List Int) :
  ZI R P fr v S (Q'.length+2 * Phi R P B fin) B Q' came x.key (fun u=>fin u∨u=v) 0:=by
 have hf:=c9b (R:=R) (P:=P) (B:=B) (fin:=fin) (fin':=fun u=>fin u∨u=v) fun u hu=>.inl hu
 obtain ⟨hKx,v',hv1,hv3,hv4⟩:=h.item x (hQ.mem_iff.1 (List.mem_cons_self ..))
 obtain rfl:v=v':=by omega
 have hl:=hQ.length_eq
 rw [List.length_cons] at hl
 have hph:=h.ph
 have hqn:=h.qn
 exact { h.toWB with
  hn:=h.hn,hp:=hh,qn:=by omega,ph:=by omega,fv:=.inr rfl,vk:=hs.symm,ms:=by omega
  item:=fun y hy=>⟨hmin y (hQ.mem_iff.1 (List.mem_cons_of_mem _ hy)),(h.item y (hQ.mem_iff.1 (List.mem_cons_of_mem _ hy))).2⟩
  fink:=fun u hu=>hu.elim (fun hu=>by have:=h.fink u hu;exact ⟨this.1,by omega⟩) fun e=>by subst e;exact ⟨hv3,by omega⟩
  sett:=fun u hne hk=>(h.sett u hk).imp_left fun ⟨y,h1,h2,h3⟩=>by
   rcases List.mem_cons.1 (hQ.mem_iff.2 h1) with e | h4
   ·subst e;exact absurd omo hne
   ·exact ⟨y,h4,h2,h3⟩
  cur:=fun k hk=>by simp at hk }
theorem ZI.end_ (h:ZI R P fr v S m0 B Q came K fin S.length) (hS:∀ k tq:Nat,nxT R v k=(tq:Int)→(k:Int)∈S):ZO R P fr B Q came K fin :=
  { h.toZB with
    sett:=fun u hk=>by
      by_cases e:u=v
      · subst e
        refine .inr fun k tq hn hp=>h.cur k ?_ tq hn hp
        rw [List.take_length];exact hS k tq hn
      · exact h.sett u e hk }
theorem ZO.stale (h:ZO R P fr B Q came K fin) {x:One} (hQ:(x::Q').Perm Q) (hh:HeapN (at_ Q') Q'.length) {v:Nat} (hx:x.thing=(v:Int)) (hs:(bw B v).price < x.key):ZO R P fr B Q' came K fin:=by
 have hl:=hQ.length_eq
 rw [List.length_cons] at hl
 have hqn:=h.qn
 exact { h with
  hp:=hh,qn:=by omega
  item:=fun y hy=>h.item y (hQ.mem_iff.1 (List.mem_cons_of_mem _ hy))
  sett:=fun u hk=>(h.sett u hk).imp_left fun ⟨y,h1,h2,h3⟩=>by
   rcases List.mem_cons.1 (hQ.mem_iff.2 h1) with e | h4
   ·subst e
    have e2:u=v:=by rw [hx] at h2;omega
    subst e2;omega
   ·exact ⟨y,h4,h2,h3⟩ }
theorem ZO.begin (hn:R.length≤30) (hf:fr < R.length) {Q:List One} (hQ:Q.Perm ([]++[⟨0,0,(fr:Int)⟩])) (hh:HeapN (at_ Q) Q.length):ZO R P fr (a9E R.length fr) Q (0+1) 0 fun _=>False:=by
 obtain ⟨hW,hk⟩:=WB.begin (P:=P) hf
 have hb:=d0O (P:=P) hn (fun _=>False) (fun v _=>hW.wl0 v)
 refine { hW with hn:=hn,hp:=hh,fink:=fun v hv=>hv.elim,qn:=by rw [hQ.length_eq];simp,ph:=by omega,item:=fun x hx=>?_,sett:=fun u hu=>.inl ?_ }
 ·have hx:=hQ.mem_iff.1 hx
  rw [List.nil_append,List.mem_singleton] at hx
  subst hx
  exact ⟨Int.le_refl _,fr,rfl,by rw [hW.frm],by rw [hW.frm];exact Int.le_refl _⟩
 ·obtain rfl:=hk u hu
  exact ⟨_,hQ.mem_iff.2 (List.mem_singleton_self _),rfl,by rw [hW.frm]⟩
theorem ZO.done (h:ZO R P fr B [] came K fin):WaysOk R P fr B:=h.toWB.done fun v hk=>(h.sett v hk).elim (fun ⟨x,hx,_⟩=>by cases hx) fun h=>h
theorem b5k {R:List (List Int)} {a:Int} {s:Int}:∀ {n:Nat},s∈byK R a n↔∃ k:Nat,s=(k:Int)∧k < n∧nxT R a k≠-1:=by
 intro n
 unfold byK
 constructor
 ·intro h
  obtain ⟨k,hk,rfl⟩:=List.mem_map.1 h
  obtain ⟨h1,h2⟩:=List.mem_filter.1 hk
  exact ⟨k,rfl,List.mem_range.1 h1,by simpa using h2⟩
 ·rintro ⟨k,rfl,h1,h2⟩
  exact List.mem_map.2 ⟨k,List.mem_filter.2 ⟨List.mem_range.2 h1,by simpa using h2⟩,rfl⟩
theorem c3n {R:List (List Int)} {a:Int} {n i k s tq:Nat} (hi:i < (byK R a n).length) (hk:(byK R a n).getD i 0=(k:Int)) (hkn:k < n) (hs:s < k) (ht:nxT R a s=(tq:Int)):(s:Int)∈(byK R a n).take i:=by
 have h1:(byK R a n).Pairwise (· < ·):=by
  unfold byK
  refine List.pairwise_map.2 ((List.pairwise_lt_range.filter _).imp fun h=>?_)
  omega
 have h2:(s:Int)∈byK R a n:=b5k.2 ⟨s,rfl,by omega,by omega⟩
 obtain ⟨j,hj,e⟩:=List.getElem_of_mem h2
 have hk2:(byK R a n)[i]=(k:Int):=by rw [←hk,List.getD_eq_getElem?_getD,List.getElem?_eq_getElem hi];rfl
 have hji:j < i:=by
  rcases Nat.lt_trichotomy j i with h | h | h
  ·exact h
  ·subst h;omega
  ·have:=List.pairwise_iff_getElem.1 h1 i j hi hj h
   omega
 rw [←e]
 exact List.mem_take_iff_getElem.2 ⟨j,by omega,rfl⟩
end
end
section
open Go.Lib (compareInt)
open Go.RowKit
set_option maxRecDepth 100000
set_option maxHeartbeats 1000000
@[reducible] def d0t (g:Nat) (B:List Wy):HObj:=⟨g,B.length,3,131,0,fun i=>wyF (bw B i)⟩
@[reducible] def d3q (B:List Wy):HV:=.sl 3 B.length (fun i=>wyF (bw B i))
theorem c8e {l:List Int} {i:Nat} (h:i < l.length):l.getD i 0∈l:=by
 rw [List.getD_eq_getElem?_getD,List.getElem?_eq_getElem h];exact List.getElem_mem h
theorem c0C {g n:Nat} {f:Nat→Nat→HV} {B:List Wy} (hn:n=B.length) (h:∀ i j,i < n→j < 3→Sb (f i j) (wyF (bw B i) j)):a2m ⟨g,n,3,131,0,f⟩ (d0t g B) :=
 ⟨rfl,hn,rfl,rfl,Nat.le_refl _,h,fun h=>absurd h (Nat.not_lt_zero _)⟩
theorem b9X:∀ j,j < 3→Sb (.imm ([Value.int .i64 0,Value.slice none 0 0,Value.bool false].getD j undef)) (wyF Wy.zero j):=fun j hj=>by
 match j,hj with
 | 0,_=>exact .refl _
 | 1,_=>exact .nil 0 1 _ dcd none
 | 2,_=>exact .refl _
theorem c9p {g n fr a:Nat} (ha:a=fr) (hf:fr < n):a2m ⟨g,n,3,131,0,upd (fun x j=>.imm ([Value.int .i64 0,Value.slice none 0 0,Value.bool false].getD j undef)) a (0+2) 1 fun j=>(boolV true).cell j⟩ (d0t g (a9E n fr)):=by
 subst ha
 refine c0C (by simp [a9E]) fun i j hi hj=>?_
 by_cases h:i=a
 ·subst h
  rw [show bw (a9E n i) i=⟨0,[],true⟩ from a1d (by rw [List.length_replicate];exact hi)]
  match j,hj with
  | 0,_=>rw [a1G omo];exact .refl _
  | 1,_=>rw [a1G omo];exact .nil 0 1 _ dcd none
  | 2,_=>rw [a4t ⟨rfl,Nat.le_refl _,by omega⟩];exact .refl _
 ·rw [a1G (fun h9=>h h9.1),show bw (a9E n a) i=Wy.zero from by unfold a9E;rw [a2P h,c1b]]
  exact b9X j hj
theorem c0n {g t a:Nat} {B:List Wy} {w:Wy} (ha:a=t) (ht:t < B.length):a2m ⟨g,B.length,3,131,0,upd (fun i=>wyF (bw B i)) a 0 3 fun j=>(wyV w).cell j⟩ (d0t g (B.set t w)):=by
 subst ha
 refine c0C sml fun i j hi hj=>?_
 by_cases h:i=a
 ·subst h
  rw [a1d hi,a4t ⟨rfl,Nat.zero_le _,by omega⟩];exact .refl _
 ·rw [a1G (fun h9=>h h9.1),a2P h];exact .refl _
theorem c5z (c0:Nat) (R:List (List Int)) (A:List Bool) (P:List Int) (fr:Nat) (hR:b4t R) (hRl:R.length≤30) (hf:fr < R.length) (hPl:P.length≤1000000):a2y Tryz.prog 27 c0 [tabP R A,intV (fr:Int),a0i P] [] (a4Q (fun B _=>WaysOk R P fr B) (fun B=>d3q B) (fun _=>[])):=by
 refine a9h Tryz.func27 rfl kr _ _ _ _ rfl 86 rfl rfl (fun X ok hX hM=>?_)
 refine ru 10 ?_
 refine cll (a6g R A) ?_
 refine a0y 21 (b2Z (id:=21) (n:=_) (m:=_) ei_77.h omx omx rfl rfl rfl rfl omx omx omx rfl) rfl rfl pre0 rfl rfl (c':=c0+3) rfl ?_
 refine ru 19 ?_
 refine (a1N 8 0 8101 3 190 (qoF []) (d3I (c0+7) 0 0) rfl rfl (fun j hj=>by match j,hj with | 0,_=>exact .inl ⟨rfl,rfl⟩ | 1,_=>exact .inr rfl) dcd dcd (c':=c0+8) rfl).wp ?_
 refine ru 2 ?_
 refine a0n 27 (xs:=[_,_,_]) (pre:=[(8,_),(8101,_)]) (c6d _ (c0+6) (c0+7) [] 0 0 (fr:Int) sml (fun k h0 hk=>absurd hk (Nat.not_lt_zero _)) ⟨by decide,by decide⟩) ⟨rfl,⟨rfl,⟨rfl,trivial⟩⟩⟩ (a0h rfl (a0h rfl pre0)) rfl rfl (fun m0 c1 hm0=>?_)
 (try dsimp only)
 refine ru 4 ?_
 refine a0l (α:=List Wy×List One×Int×(Nat→Prop)×Int×Nat) (fun x c=>⟨86,[(3,.v (.pt 3 c0 0 0)),(5,.v (.pt 5 (c0+1) 0 0)),(7,.v (.pt 7 (c0+3) 0 0)),(8,.v (.pt 8 (c0+6) 0 0))],[(3,⟨c0,1,1,24,0,fun _ _=>tabP R A⟩),(5,⟨c0+1,1,1,23,0,fun _ _=>a0i P⟩),(7,⟨c0+3,1,1,77,0,fun _ _=>.os 21 (c0+2) 0 x.1.length⟩),(21,d0t (c0+2) x.1),(8,a8K (c0+6) x.2.2.2.2.2 x.2.1.length x.2.2.1),(8101,qrO x.2.2.2.2.2 x.2.1)],c⟩) (fun x=>ZO R P fr x.1 x.2.1 x.2.2.1 x.2.2.2.2.1 x.2.2.2.1) (fun x=>x.2.1.length+2 * Phi R P x.1 x.2.2.2.1) ((a9E R.length fr,m0.1,0+1,fun _=>False,0,m0.2)) (by exact ZO.begin hRl hf hm0.1 hm0.2) (a0b rfl lrf tsa (a0g.cons rfl (b4h (.refl _)) (a0g.cons rfl (b4h (.refl _)) (a0g.cons rfl (b4h (a3A (by simp [a9E]))) (a0g.cons rfl (c9p om hf) hsa))))) (fun x c hx NhL1 hL1=>?_)
 revert hx hL1;obtain ⟨B,Q,came,fin,K,gr⟩:=x;intro hx hL1;dsimp only at hx hL1 ⊢
 refine ru 3 ?_
 refine hq_ 28 (a0B (xs:=[_]) (pre:=[(8,_),(8101,_)]) (d2z (c0+6) gr Q came) ⟨rfl,trivial⟩) rfl rfl (a0h rfl (a0h rfl pre0)) rfl rfl ?_
 refine ru 3 ?_
 refine wdc (fun hr0 hc0=>?_) (fun hr0 hc0=>?_)
 ·skip
  have hQ0:0 < Q.length:=om;have hO:=hx;have hbl:=hO.len;have hph:=hO.ph;have hqn:=hO.qn;have hmem:at_ Q 0∈Q:=(by rw [a7a hQ0];exact List.getElem_mem hQ0);obtain ⟨hKx,v,hv1,hv3,hv4⟩:=hO.item _ hmem;have hv2:=hO.toWB.lt hv3
  refine ru 5 ?_
  refine a0n 31 (xs:=[_]) (pre:=[(8,_),(8101,_)]) (c8w _ (c0+6) gr Q came om hQ0 hO.hp) ⟨rfl,trivial⟩ (a0h rfl (a0h rfl pre0)) rfl rfl (fun Q1 c2 hQ1=>?_)
  (try dsimp only)
  refine ru 2 ?_
  refine rvl (intV (v:Int)) ((congrArg intV hv1)) ?_
  refine ru 20 ?_
  refine wdc (fun hr1 hc1=>?_) (fun hr1 hc1=>?_)
  ·skip
   have hst:(bw B v).price < (at_ Q 0).key:=(by simpa using hr1)
   refine ru 3 ?_
   exact hL1 ((B,Q1,came,fin,K,gr)) _ _ (by (try dsimp only);exact hO.stale hQ1.1 hQ1.2 hv1 hst) (by (try dsimp only);have h9:=hQ1.1.length_eq;rw [List.length_cons] at h9;omega) (a0b rfl lrf tsa hsa)
  have hst:(at_ Q 0).key=(bw B v).price:=(by have h9:=hr1;simp at h9;omega);have hmin:∀ y∈Q,(at_ Q 0).key≤y.key:=(fun y hy=>by obtain ⟨j,hj,rfl⟩:=List.getElem_of_mem hy;have h9:=c0e hO.hp j hj;rw [a4d,a7a hj] at h9;omega);have hI:=ZI.start hO hQ1.1 hQ1.2 hmin hv1 hst (a9d R (v:Int) 32).list
  refine ru 6 ?_
  refine cll (d0m R A (v:Int)) ?_
  refine cll (c2H (a9d R (v:Int) 32)) ?_
  refine ru 3 ?_
  refine a7M (α:=Nat×List Wy×List One×Int×Nat) ⟨rfl,rfl,rfl⟩ (b4l (a9d R (v:Int) 32) (b1R _ _ _)) rfl (cs:=[_]) rfl (fun i hi=>by first | rfl | (cases i <;> first | rfl | (simp at hi))) ⟨(Fz.eq rfl),trivial⟩ rfl (fun _=>rfl) rfl (fun x=>[(3,⟨c0,1,1,24,0,fun _ _=>tabP R A⟩),(5,⟨c0+1,1,1,23,0,fun _ _=>a0i P⟩),(7,⟨c0+3,1,1,77,0,fun _ _=>.os 21 (c0+2) 0 x.2.1.length⟩),(21,d0t (c0+2) x.2.1),(8,a8K (c0+6) x.2.2.2.2 x.2.2.1.length x.2.2.2.1),(8101,qrO x.2.2.2.2 x.2.2.1),(9,⟨c2,1,1,3,0,fun _ _=>intV (v:Int)⟩)]) (fun x=>x.1) (fun x=>x.1≤(a9d R (v:Int) 32).list.length∧ZI R P fr v (a9d R (v:Int) 32).list (Q1.length+2 * Phi R P B fin) x.2.1 x.2.2.1 x.2.2.2.1 (at_ Q 0).key (fun u=>fin u∨u=v) x.1) ((0,B,Q1,came,gr)) (by exact ⟨Nat.zero_le _,hI⟩) (by first | rfl | omega) (hsr rfl (hsr rfl (hsr rfl (hsr rfl (hsr rfl (hsr rfl (a0g.cons rfl (b4h (.refl _)) a0g.nil))))))) rfl (fun x c hx hi C1 lr hC1 NhR2 hR2=>?_) (fun x c hx hi=>?_)
  ·skip
   revert hx hi hR2;obtain ⟨i,B1,Q2,came1,gr1⟩:=x;intro hx hi hR2;dsimp only at hx hi hR2 ⊢
   obtain ⟨hix,hI1⟩:=hx
   have hSl:(a9d R (v:Int) 32).list.length≤32:=(by rw [a7r];exact c6U R v 32);obtain ⟨k,hk1,hk32,hkn⟩:∃ k:Nat,(a9d R (v:Int) 32).list.getD i 0=(k:Int)∧k < 32∧nxT R v k≠-1:=(b5k.1 (by rw [←a7r];exact c8e hi));obtain ⟨tq,htq⟩:∃ tq:Nat,nxT R v k=(tq:Int):=⟨(nxT R v k).toNat,by have:=(c0F hR v k).1;omega⟩;have htR:tq < R.length:=(by have:=(c0F hR v k).2;omega);have hbl1:=hI1.len;have hw1:=hI1.toWB.wl0 v;have hw2:=hI1.toWB.wl0 tq;have hdn:=hI1.fink v hI1.fv;have hpo:=hI1.ok v hdn.1;have hpb:=a5I P _ hpo.2.2;rw [←hpo.2.1] at hpb;have hcc:=hI1.ph;have hqq:=hI1.qn;rw [hk1]
   refine ru 3 ?_
   refine hR2 _ (fun C2 hC3=>?_)
   refine ru 5 ?_
   refine cll (c8P P k hPl) ?_
   refine ru 14 ?_
   refine wdc (fun hr2 hc2=>?_) (fun hr2 hc2=>?_)
   ·skip
    have hpk:priceOk P k=false:=(by simpa using hr2)
    refine ru 3 ?_
    exact a2C ⟨(i+1,B1,Q2,came1,gr1),by (try dsimp only);exact ⟨by omega,hI1.skip hi hk1 hpk⟩,by first | rfl | omega,hsa⟩
   have hpk:priceOk P k=true:=(by simpa using hr2);have hp1:=a3O hpk;have hwl:(a2J (bw B1 v) k (P.getD k 0)).word.length=(bw B1 v).word.length+1:=(by simp [a2J])
   refine ru 7 ?_
   refine cll (c5P R A v k) ?_
   refine ru 2 ?_
   refine rvl (intV (tq:Int)) ((congrArg intV (by rw [htq];exact if_neg om))) ?_
   refine ru 11 ?_
   refine rvl (wyV (bw B1 v)) ((by rw [Nat.zero_add,Int.toNat_natCast];rfl)) ?_
   refine ru 2 ?_
   refine rvl (intV (P.getD k 0)) ((congrArg intV (if_pos hpk))) ?_
   refine s0 (a0e (xs:=[_,_,_]) (c3Y (bw B1 v) k (P.getD k 0) om ⟨by omega,by omega⟩ ⟨by omega,by omega⟩) ⟨rfl,⟨rfl,⟨rfl,trivial⟩⟩⟩ ⟨(show Fz _ (wyV (bw B1 v)) (wyV (bw B1 v)) from .agg _ _ _ (a8F _)),⟨(Fz.eq rfl),⟨(Fz.eq rfl),trivial⟩⟩⟩) ?_
   refine ru 7 ?_
   refine rvl (wyV (a2J (bw B1 v) k (P.getD k 0))) (rfl) ?_
   refine ru 11 ?_
   refine rvl (wyV (bw B1 tq)) ((by rw [Nat.zero_add,Int.toNat_natCast];rfl)) ?_
   refine s0 (b8e (xs:=[_]) (args:=[_]) (ys:=[wyV (a2J (bw B1 v) k (P.getD k 0)),wyV (bw B1 tq)]) (b5p (a2J (bw B1 v) k (P.getD k 0)) (bw B1 tq) om om) rfl ⟨rfl,trivial⟩ ⟨.agg _ _ _ (a8F _),.agg _ _ _ (a8F _),trivial⟩) ?_
   refine ru 2 ?_
   refine wdc (fun hr3 hc3=>?_) (fun hr3 hc3=>?_)
   ·skip
    have hb1:a1R (a2J (bw B1 v) k (P.getD k 0)) (bw B1 tq)=true:=(by simpa using hr3)
    refine ru 5 ?_
    refine rvl (wyV (a2J (bw B1 v) k (P.getD k 0))) (rfl) ?_
    refine ru 7 ?_
    refine rvl (intV ((bw B1 v).price+P.getD k 0)) (rfl) ?_
    refine ru 1 ?_
    refine a0n 84 (xs:=[_,_,_]) (pre:=[(8,_),(8101,_)]) (c6d _ (c0+6) gr1 Q2 came1 ((bw B1 v).price+P.getD k 0) (tq:Int) om hI1.hp ⟨by omega,by omega⟩) ⟨rfl,⟨rfl,⟨rfl,trivial⟩⟩⟩ (a0h rfl (a0h rfl pre0)) rfl rfl (fun m1 c3 hm1=>?_)
    (try dsimp only)
    refine ru 2 ?_
    exact a2C ⟨(i+1,B1.set tq (a2J (bw B1 v) k (P.getD k 0)),m1.1,came1+1,m1.2),by (try dsimp only);exact ⟨by omega,hI1.better hi hk1 htR htq hpk (fun s h8 h9=>by have h7:=hk1;rw [a7r] at h7 hi ⊢;exact c3n hi h7 hk32 h8 h9) hb1 hm1.1 hm1.2⟩,by first | rfl | omega,(hsr rfl (hsr rfl (a0g.cons rfl (b4h (a3A sml)) (a0g.cons rfl (c0n om om) hsa))))⟩
   have hb1:a1R (a2J (bw B1 v) k (P.getD k 0)) (bw B1 tq)=false:=(by simpa using hr3)
   refine ru 2 ?_
   exact a2C ⟨(i+1,B1,Q2,came1,gr1),by (try dsimp only);exact ⟨by omega,hI1.keep hi hk1 htq hb1⟩,by first | rfl | omega,hsa⟩
  ·skip
   revert hx hi;obtain ⟨i,B1,Q2,came1,gr1⟩:=x;intro hx hi;dsimp only at hx hi ⊢
   obtain ⟨hix,hI1⟩:=hx
   subst hi;have hE:=ZI.end_ hI1 (fun k tq hk=>by rw [a7r];exact b5k.2 ⟨k,rfl,(b4V hk).1,by omega⟩);have hq9:=hQ1.1.length_eq;rw [List.length_cons] at hq9
   refine ru 2 ?_
   exact hL1 ((B1,Q2,came1,fun u=>fin u∨u=v,(at_ Q 0).key,gr1)) _ _ (by (try dsimp only);exact hE) (by (try dsimp only);have h9:=hI1.ms;omega) (a0b rfl lrf tsa hsa)
 obtain rfl:Q=[]:=List.eq_nil_of_length_eq_zero om;have hW:=hx.done
 refine ru 2 ?_
 refine a0c ?_
 refine ru 9 ?_
 refine b2i hM ?_
 refine a1j ok hX a2j.one rfl (a0f rfl) [(21,_)] rfl (a0h rfl pre0) (B) (hW) (by rfl) (by rfl) ((.fz _ _ (a2v (l:=B) (enc:=wyF) (d:=default) (List.mem_cons_self ..) rfl rfl lrf (fun i j hi hj=>a8F _ j hj)))) ?_
 exact trivial
end
section
open Go.Lib (compareInt)
section
variable {R:List (List Int)} {P:List Int} {fr:Nat} {B B':List Wy}
theorem c5c {a b:Wy} (h:leW a b) (k:leW b a):a.price=b.price∧a.word=b.word:=by
 have h3:=a4k a.word b.word
 unfold leW at h k
 have hp:a.price=b.price:=by omega
 refine ⟨hp,?_⟩
 rcases h3 with h3 | h3 | h3
 ·omega
 ·exact h3.2
 ·omega
theorem WaysOk.uniq (h:WaysOk R P fr B) (k:WaysOk R P fr B'):B=B':=by
  have hb:∀ {C D:List Wy},WaysOk R P fr C→WaysOk R P fr D→∀ v,(bw C v).known=true→(bw D v).known=true∧leW (bw D v) (bw C v):=fun hC hD v hk=>by
    have h1:=hC.ok v hk
    have h2:=hD.best _ v h1.2.2 h1.1
    refine ⟨h2.1,a1D h2.2 ?_⟩
    exact .inr ⟨h1.2.1.symm,.inr ⟨rfl,by rw [a3m];exact Int.le_refl _⟩⟩
  have he:∀ v,bw B v=bw B' v:=fun v=>by
    cases hk:(bw B v).known with
    | true =>
      have h1:=hb h k v hk
      have h2:=hb k h v h1.1
      have h3:=c5c h2.2 h1.2
      cases e1:bw B v with
      | mk p w n =>
        cases e2:bw B' v with
        | mk p' w' n' =>
          rw [e1] at hk h3;rw [e2] at h1 h3
          have a1:n=true:=hk
          have a2:n'=true:=h1.1
          have a3:p=p':=h3.1
          have a4:w=w':=h3.2
          rw [a1,a2,a3,a4]
    | false =>
      cases hk2:(bw B' v).known with
      | true=>rw [(hb k h v hk2).1] at hk;cases hk
      | false=>rw [h.zero v hk,k.zero v hk2]
  refine List.ext_getElem (by rw [h.len,k.len]) fun i h1 h2=>?_
  have:=he i
  unfold bw at this
  rw [List.getD_eq_getElem?_getD,List.getD_eq_getElem?_getD,List.getElem?_eq_getElem h1,List.getElem?_eq_getElem h2] at this
  exact this
def PW (R:List (List Int)) (P:List Int) (fr:Nat) (B:List Wy) (k:Nat):Prop:=∀ (u:List Int) (v:Nat),OkW P u→u.length≤k→runX R (fr:Int) u=(v:Int)→(bw B v).known=true∧leW (bw B v) ⟨priceW P u,u,true⟩
structure DI (R:List (List Int)) (P:List Int) (fr:Nat) (B:List Wy) (k a s:Nat) (turned:Bool):Prop extends WB R P fr B where
 pw:PW R P fr B k
 nx:∀ (l:List Int) (q j t:Nat),OkW P l→l.length≤k→runX R (fr:Int) l=(q:Int)→(q < a∨(q=a∧j < s))→nxT R q j=(t:Int)→priceOk P j=true→(bw B t).known=true∧leW (bw B t) ⟨priceW P (l++[(j:Int)]),l++[(j:Int)],true⟩
 tn:turned=false→∀ q j:Nat,(q < a∨(q=a∧j < s))→(bw B q).known=true→rlx R P B q j
 tk:turned=true→k+1 < R.length
structure DO (R:List (List Int)) (P:List Int) (fr:Nat) (B:List Wy) (k:Nat) (turned:Bool):Prop extends WB R P fr B where
 pw:PW R P fr B k
 tn:turned=false→∀ q:Nat,(bw B q).known=true→∀ j,rlx R P B q j
 tk:turned=true→k < R.length
variable {k a s:Nat} {turned:Bool}
theorem DO.begin (hf:fr < R.length):DO R P fr (a9E R.length fr) 0 true :=
  { (WB.begin (P := P) hf).1 with
    pw:=fun u v hu hl hr=>by
      obtain rfl:u=[]:=List.eq_nil_of_length_eq_zero omo
      have hr:(fr:Int)=(v:Int):=hr
      obtain rfl:fr=v:=by omega
      rw [(WB.begin (P:=P) hf).1.frm];exact ⟨rfl,a3J _⟩
    tn:=fun h=>by cases h
    tk:=fun _=>by omega }
theorem DO.round (h:DO R P fr B k turned):DI R P fr B k 0 0 false :=
 { h with nx:=fun l q j t _ _ _ hq=>omo,tn:=fun _ q j hq=>omo,tk:=fun h=>(by cases h) }
theorem DI.over (h:DI R P fr B k a s turned) (a' s':Nat) (hh:∀ q j t:Nat,(q < a'∨(q=a'∧j < s'))→nxT R q j=(t:Int)→priceOk P j=true→(bw B q).known=true→(q < a∨(q=a∧j < s))∨rlx R P B q j):DI R P fr B k a' s' turned :=
  { h with
    nx:=fun l q j t h1 h2 h3 h4 h5 h6=>by
      have hq:=h.pw l q h1 h2 h3
      rcases hh q j t h4 h5 h6 hq.1 with h7 | h7
      · exact h.nx l q j t h1 h2 h3 h7 h5 h6
      · obtain ⟨h8,h9⟩:=h7 t h5 h6
        refine ⟨h8,a1D h9 ?_⟩
        have:=b1L hq.2 (j:Int) (P.getD j 0)
        rw [a3X,Int.toNat_natCast]
        exact this
    tn:=fun ht q j h1 h2 t h3 h4=>(hh q j t h1 h3 h4 h2).elim (fun h5=>h.tn ht q j h5 h2 t h3 h4) fun h5=>h5 t h3 h4 }
theorem DI.skip (h:DI R P fr B k a s turned) (hs:(bw B a).known=false∨nxT R a s < 0∨priceOk P s=false):DI R P fr B k a (s+1) turned :=
 h.over a (s+1) fun q j t h1 h2 h3 h4=>by
  by_cases e:q=a∧j=s
  ·obtain ⟨rfl,rfl⟩:=e
   rcases hs with h5 | h5 | h5
   ·rw [h5] at h4;cases h4
   ·omega
   ·rw [h5] at h3;cases h3
  ·left;omega
theorem DI.keep (h:DI R P fr B k a s turned) {tq:Nat} (hn:nxT R a s=(tq:Int)) (hb:a1R (wst P B a s) (bw B tq)=false):DI R P fr B k a (s+1) turned :=
 h.over a (s+1) fun q j t h1 h2 h3 h4=>by
  by_cases e:q=a∧j=s
  ·obtain ⟨rfl,rfl⟩:=e
   right
   intro t' hn' _
   rw [hn] at hn'
   obtain rfl:tq=t':=by omega
   exact a5j.1 hb
  ·left;omega
theorem DI.row (h:DI R P fr B k a s turned) (hs:32≤s∨P.length≤s):DI R P fr B k (a+1) 0 turned :=
 h.over (a+1) 0 fun q j t h1 h2 h3 h4=>by
  left
  have h5:=(b4V h2).1
  have h6:j < P.length:=by unfold priceOk at h3;simp only [Bool.and_eq_true,decide_eq_true_eq] at h3;exact h3.1.1
  omega
theorem DI.better (h:DI R P fr B k a s turned) {tq:Nat} (htR:tq < R.length) (hk:(bw B a).known=true) (hn:nxT R a s=(tq:Int)) (hp:priceOk P s=true) (hb:a1R (wst P B a s) (bw B tq)=true):DI R P fr (B.set tq (wst P B a s)) k a (s+1) true:=by
 have htB:tq < B.length:=by rw [h.len];exact htR
 have hW:=h.toWB.upd hk hn hp hb htR
 have hle:(bw B tq).known=true→leW (wst P B a s) (bw B tq):=fun hk=>a7m hb hk
 have hup:∀ (t:Nat) (w:Wy),(bw B t).known=true∧leW (bw B t) w→(bw (B.set tq (wst P B a s)) t).known=true∧leW (bw (B.set tq (wst P B a s)) t) w:=fun t w ⟨h1,h2⟩=>by
  by_cases e:t=tq
  ·subst e;rw [a1d htB];exact ⟨rfl,a1D (hle h1) h2⟩
  ·rw [a2P e];exact ⟨h1,h2⟩
 refine { hW with pw:=fun u v h1 h2 h3=>hup v _ (h.pw u v h1 h2 h3),tn:=fun h=>(by cases h),nx:=fun l q j t h1 h2 h3 h4 h5 h6=>?_,tk:=fun _=>?_ }
 ·by_cases e:q=a∧j=s
  ·obtain ⟨rfl,rfl⟩:=e
   rw [hn] at h5
   obtain rfl:tq=t:=by omega
   rw [a1d htB,a3X,Int.toNat_natCast]
   exact ⟨rfl,b1L (h.pw l q h1 h2 h3).2 (j:Int) (P.getD j 0)⟩
  ·exact hup t _ (h.nx l q j t h1 h2 h3 omo h5 h6)
 ·rcases Nat.lt_or_ge (k+1) R.length with h1 | h1
  ·exact h1
  ·have h2:=hW.ok tq (by rw [a1d htB];rfl)
   rw [a1d htB] at h2
   obtain ⟨u,a1,a2,a3,a4⟩:=d3Y (fr:=fr) _ _ tq lrf h2.2.2 htR h2.1
   obtain ⟨b1,b2⟩:=h.pw u tq a1 omo a2
   rw [←h2.2.1] at a4
   have h9:leW ⟨(wst P B a s).price,(wst P B a s).word,true⟩ (wst P B a s):=a3J _
   have:=a5j.2 ⟨b1,a1D b2 (a1D a4 h9)⟩
   rw [hb] at this;cases this
theorem DI.end_ (h:DI R P fr B k R.length 0 turned):DO R P fr B (k+1) turned :=
  { h with
    pw:=fun u=>c0u (p:=fun u=>∀ v:Nat,OkW P u→u.length≤k+1→runX R (fr:Int) u=(v:Int)→(bw B v).known=true∧leW (bw B v) ⟨priceW P u,u,true⟩) (fun v h1 h2 h3=>h.pw [] v h1 (Nat.zero_le _) h3) (fun l j _ v h1 h2 h3=>by
      rw [List.length_append,List.length_singleton] at h2
      obtain ⟨j,rfl,hj,hp⟩:=h1 j (List.mem_append.2 (.inr (List.mem_singleton_self _)))
      rw [a7z] at h3
      have hin:=b4V h3
      obtain ⟨q,hq⟩:∃ q:Nat,runX R (fr:Int) l=(q:Int):=⟨(runX R (fr:Int) l).toNat,by omega⟩
      rw [hq] at h3 hin
      exact h.nx l q j v (fun s hs=>h1 s (List.mem_append.2 (.inl hs))) omo hq omo h3 hp) u
    tn:=fun ht q hk j=>h.tn ht q j (.inl (h.toWB.lt hk)) hk
    tk:=h.tk }
theorem DO.done (h:DO R P fr B k false):WaysOk R P fr B:=h.toWB.done fun v hk j=>h.tn rfl v hk j
end
end
section
open Go.Lib (compareInt)
open Go.RowKit
set_option maxRecDepth 100000
set_option maxHeartbeats 1000000
@[reducible] def b0F (R:List (List Int)) (A:List Bool) (i:Nat):Bool:=c9R R (i:Int)&&A.getD i false
def a1r (B:List Wy) (acc:Nat→Bool):Nat→Wy
 | 0=>Wy.zero
 | k+1=>if (bw B k).known=true∧acc k=true∧a1R (bw B k) (a1r B acc k)=true then bw B k else a1r B acc k
theorem a7t {B:List Wy} {acc:Nat→Bool} {n:Nat} (h:∀ v,(bw B v).word.length≤n):∀ k,(a1r B acc k).word.length≤n
  | 0=>Nat.zero_le _
  | k + 1 => by
    unfold a1r;split
    · exact h k
    · exact a7t h k
@[reducible] def c6O (o:Wy):HV:=t3 (a0i o.word) (intV o.price) (boolV o.known)
theorem c7O {g:Nat} {f:Nat→Nat→HV} {w:Wy} (h:∀ j,j < 3→Sb (f 0 j) (wyF w j)):a2m ⟨g,1,3,131,0,f⟩ ⟨g,1,3,131,0,fun _=>wyF w⟩:=.of fun i j hi hj=>by
 obtain rfl:i=0:=by omega
 exact h j hj
@[reducible] def d2P (mv:HV) (acc:Nat→Bool):Prop:=∀ (k:Nat) {ov:Nat→Option HV} {g:Nat} {d:Option Tmp} {ty:TypeId} {pos:String} {af:Array Edge} {gd:Option (Nat×Bool)} {t:Nat} {args:List Operand} {at_:Array TypeId},ovl ov (.tmp t)=some mv→a1L ov args [intV (k:Int)] →
  HOp Tryz.prog ⟨d,.call ⟨.value (.tmp t),args.toArray,at_⟩,ty,pos,af,gd⟩ ov g [] (boolV (acc k)) []
theorem c6E (c0:Nat) (B:List Wy) (mv:HV) (acc:Nat→Bool) (hm:d2P mv acc) (hB:B.length≤1000) (hw:∀ v,(bw B v).word.length≤1000):a2y Tryz.prog 26 c0 [d3q B,mv] [] (a4Q (fun (_:Unit) _=>True) (fun _=>c6O (a1r B acc B.length)) (fun _=>[])):=by
 have hpl:=a7t (acc:=acc) hw
 refine a0p Tryz.func26 rfl kr _ _ _ _ rfl 37 rfl rfl (fun X ok hX=>?_)
 refine ru 21 ?_
 refine a0l (α:=Nat) (fun x c=>⟨37,[(1,.v mv),(7,.v (.pt 7 c0 0 0)),(10,.v (d3q B)),(11,.v (intV (B.length:Int))),(12,.v (intV (x:Int)))],[(7,⟨c0,1,3,131,0,fun _=>wyF (a1r B acc x)⟩)],c⟩) (fun x=>x≤B.length) (fun x=>B.length - x) (0) (by exact Nat.zero_le _) (a0b rfl lrf tsa (a0g.cons rfl (c7O (fun j hj=>b9X j hj)) a0g.nil)) (fun k c hx NhL1 hL1=>?_)
 (try dsimp only at hx hL1 ⊢)
 refine ru 6 ?_
 refine wdc (fun hr0 hc0=>?_) (fun hr0 hc0=>?_)
 ·skip
  have hk1:=hw k;have hk2:=hpl k
  refine ru 9 ?_
  refine rvl (wyV (bw B k)) ((by first | rfl | (rw [Int.toNat_natCast];rfl))) ?_
  refine ru 12 ?_
  first
  | refine stg 19 (fun hb=>hm k (args:=[_]) rfl ⟨rfl,trivial⟩) rfl rfl rfl rfl rfl ?_
  | refine sth 19 (fun hb=>hm k (args:=[_]) rfl ⟨rfl,trivial⟩) rfl rfl rfl rfl rfl ?_
  refine ru 3 ?_
  refine ry (wyV (bw B k)) rfl (fun hb=>rfl) ?_
  refine ru 1 ?_
  refine ry (wyV (a1r B acc k)) rfl (fun hb=>rfl) ?_
  first
  | refine stg 24 (fun hb=>a0e (xs:=[_,_]) (b5p (bw B k) (a1r B acc k) omo omo) ⟨rfl,⟨rfl,trivial⟩⟩ ⟨(show Fz _ (wyV _) (wyV _) from .agg _ _ _ (a8F _)),⟨(show Fz _ (wyV _) (wyV _) from .agg _ _ _ (a8F _)),trivial⟩⟩) rfl rfl rfl rfl rfl ?_
  | refine sth 24 (fun hb=>a0e (xs:=[_,_]) (b5p (bw B k) (a1r B acc k) omo omo) ⟨rfl,⟨rfl,trivial⟩⟩ ⟨(show Fz _ (wyV _) (wyV _) from .agg _ _ _ (a8F _)),⟨(show Fz _ (wyV _) (wyV _) from .agg _ _ _ (a8F _)),trivial⟩⟩) rfl rfl rfl rfl rfl ?_
  refine ru 3 ?_
  refine wdc (fun hr1 hc1=>?_) (fun hr1 hc1=>?_)
  ·skip
   have hy:a1r B acc (k+1)=bw B k:=(by have h9:=hr1;rw [Bool.and_eq_true,Bool.and_eq_true] at h9;exact if_pos ⟨h9.1.1,h9.1.2,h9.2⟩)
   refine ru 2 ?_
   refine rvl (wyV (bw B k)) (rfl) ?_
   refine ru 8 ?_
   exact hL1 (k+1) _ _ omd omd (a0b rfl lrf tsa (a0g.cons rfl (c7O (fun j hj=>by rw [hy];exact .refl _)) a0g.nil))
  have hy:a1r B acc (k+1)=a1r B acc k:=(by refine if_neg (fun h9=>?_);have h8:=hr1.symm.trans (by rw [Bool.and_eq_true,Bool.and_eq_true];exact ⟨⟨h9.1,h9.2.1⟩,h9.2.2⟩);cases h8)
  refine ru 7 ?_
  exact hL1 (k+1) _ _ omd omd (a0b rfl lrf tsa (a0g.cons rfl (c7O (fun j hj=>by rw [hy];exact .refl _)) a0g.nil))
 obtain rfl:k=B.length:=om
 refine ru 2 ?_
 refine a0c ?_
 refine ru 16 ?_
 refine a1q ok hX a2j.one rfl (a0f rfl) (a0f rfl) (a0f rfl) [] rfl pre0 (()) (trivial) (by rfl) (by rfl) ((.fz _ _ (a2M (show Fz _ (a0i (a1r B acc B.length).word) (a0i (a1r B acc B.length).word) from Frz.fz) (.imm _) (.imm _)))) ?_
 exact trivial
open Classical in
noncomputable def d2r (R:List (List Int)) (P:List Int) (fr:Nat):List Wy:=if h:∃ B,WaysOk R P fr B then Classical.choose h else []
theorem c0Q {R:List (List Int)} {P:List Int} {fr:Nat} {B:List Wy} (h:WaysOk R P fr B):B=d2r R P fr:=by
 have h2:∃ B,WaysOk R P fr B:=⟨B,h⟩
 unfold d2r
 rw [dif_pos h2]
 exact h.uniq (Classical.choose_spec h2)
noncomputable def a5p (R:List (List Int)) (P:List Int) (acc:Nat→Bool) (fr:Int):Wy:=if 0≤fr∧fr < R.length then a1r (d2r R P fr.toNat) acc R.length else Wy.zero
theorem a5d {R:List (List Int)} {P:List Int} {acc:Nat→Bool} {fr:Nat} {B:List Wy} (h:WaysOk R P fr B) (hf:fr < R.length):a5p R P acc fr=a1r B acc R.length:=by
 unfold a5p
 rw [if_pos ⟨by omega,by omega⟩,Int.toNat_natCast,←c0Q h]
theorem a6b {R:List (List Int)} {P:List Int} {acc:Nat→Bool} {fr:Int} (h:fr < 0∨(R.length:Int)≤fr):a5p R P acc fr=Wy.zero:=if_neg omo
theorem b1X {sh:List (Nat×HObj)}:Fz sh (t3 (.imm (.slice none 0 0)) (intV 0) (boolV false)) (c6O Wy.zero):=a2M (.nil _ _ _ dcd _) (.imm _) (.imm _)
theorem b9C {sh:List (Nat×HObj)} (o:Wy):Fz sh (c6O o) (c6O o):=a2M (show Fz _ (a0i o.word) (a0i o.word) from Frz.fz) (.imm _) (.imm _)
def c1I (R:List (List Int)) (P:List Int) (fr:Int):Prop:=∀ f:Nat,fr=(f:Int)→f < R.length→WaysOk R P f (d2r R P f)
theorem b4x {R:List (List Int)} {P:List Int} {acc:Nat→Bool} {fr:Int} (h:c1I R P fr):(a5p R P acc fr).word.length≤R.length:=by
 by_cases hf:0≤fr∧fr < R.length
 ·obtain ⟨f,rfl⟩:∃ f:Nat,fr=(f:Int):=⟨fr.toNat,by omega⟩
  have hW:=h f rfl omo
  rw [a5d hW omo]
  exact a7t hW.wl _
 ·rw [a6b omo];exact Nat.zero_le _
theorem b7a (c0:Nat) (R:List (List Int)) (A:List Bool) (P:List Int) (fr:Int) (hR:b4t R) (hRl:R.length≤30) (hPl:P.length≤1000000):a2y Tryz.prog 7 c0 [tabP R A,intV fr,a0i P] [] (a4Q (fun (_:Unit) _=>c1I R P fr) (fun _=>c6O (a5p R P (b0F R A) fr)) (fun _=>[])):=by
 refine a0p Tryz.func7 rfl kr _ _ _ _ rfl 27 rfl rfl (fun X ok hX=>?_)
 refine ru 15 ?_
 first
 | refine stg 11 (fun hb=>a0e (xs:=[_]) (a6g R A) ⟨rfl,trivial⟩ ⟨(Fz.eq rfl),trivial⟩) rfl rfl rfl rfl rfl ?_
 | refine sth 11 (fun hb=>a0e (xs:=[_]) (a6g R A) ⟨rfl,trivial⟩ ⟨(Fz.eq rfl),trivial⟩) rfl rfl rfl rfl rfl ?_
 refine ru 4 ?_
 refine wdc (fun hr0 hc0=>?_) (fun hr0 hc0=>?_)
 ·refine ru 1 ?_
  rw [a6b (by simp at hr0;omega)]
  refine ru 8 ?_
  refine a1q ok hX a2j.one rfl (a0f rfl) (a0f rfl) (a0f rfl) [] rfl pre0 (()) ((fun f hf hl=>by have h9:=hr0;simp at h9;omega)) (by rfl) (by rfl) ((.fz _ _ b1X)) ?_
  exact trivial
 refine ru 3 ?_
 obtain ⟨f,rfl⟩:∃ f:Nat,fr=(f:Int):=⟨fr.toNat,by simp at hr0;omega⟩;have hf:f < R.length:=by simp at hr0;omega
 refine ru 4 ?_
 refine a0n 20 (xs:=[_,_,_]) (pre:=[]) (c5z _ R A P f hR hRl hf hPl) ⟨rfl,⟨rfl,⟨rfl,trivial⟩⟩⟩ pre0 rfl rfl (fun B c1 hB=>?_)
 (try dsimp only)
 refine ru 2 ?_
 refine a0n 23 (xs:=[_,_]) (pre:=[]) (c6E _ B _ (b0F R A) (fun k=>fun h0 hx=>b8e (d1C R A k) h0 hx ⟨(show Fz _ (tabP R A) (tabP R A) from Frz.fz),.imm _,trivial⟩) (by rw [hB.len];omega) (fun v=>Nat.le_trans (hB.wl v) om)) ⟨rfl,⟨rfl,trivial⟩⟩ pre0 rfl rfl (fun u c2 hx2=>?_)
 (try dsimp only)
 refine ru 9 ?_
 refine a1q ok hX a2j.one rfl (a0f rfl) (a0f rfl) (a0f rfl) [] rfl pre0 (()) ((fun f' hf' hl=>by obtain rfl:f=f':=om;rw [←c0Q hB];exact hB)) (by rfl) (by rfl) ((by rw [a5d hB hf,←hB.len];exact .fz _ _ (b9C _))) ?_
 exact trivial
theorem c8c (c0:Nat) (P:List Int) (fr:Int):a2y Tryz.prog 7 c0 [b4P,intV fr,a0i P] [] (a4Q (fun (_:Unit) _=>True) (fun _=>c6O Wy.zero) (fun _=>[])):=by
 refine a0p Tryz.func7 rfl kr _ _ _ _ rfl 27 rfl rfl (fun X ok hX=>?_)
 refine ru 15 ?_
 first
 | refine stg 11 (fun hb=>a0e (xs:=[_]) (a5W) ⟨rfl,trivial⟩ ⟨(Fz.eq rfl),trivial⟩) rfl rfl rfl rfl rfl ?_
 | refine sth 11 (fun hb=>a0e (xs:=[_]) (a5W) ⟨rfl,trivial⟩ ⟨(Fz.eq rfl),trivial⟩) rfl rfl rfl rfl rfl ?_
 refine ru 4 ?_
 refine wdc (fun hr0 hc0=>?_) (fun hr0 hc0=>?_)
 ·refine ru 9 ?_
  refine a1q ok hX a2j.one rfl (a0f rfl) (a0f rfl) (a0f rfl) [] rfl pre0 (()) (trivial) (by rfl) (by rfl) ((.fz _ _ b1X)) ?_
  exact trivial
 exfalso;simp at hr0;omega
theorem d0B (at_ tq:Int):HPure Tryz.prog 30 ([intV at_]++[.fp 1 (fun _=>intV tq)]) (boolV (decide (at_=tq))):=by
 show HPure _ _ [intV at_,.fp 1 (fun _=>intV tq)] _
 refine a0k Tryz.func30 rfl kr _ _ _ rfl 7 rfl rfl (fun w F=>?_)
 refine ru 14 ?_
 refine rt1 ?_
 exact a1H (by rw [Bool.eq_iff_iff];simp)
theorem d0v {sh:List (Nat×HObj)} {id g ty fl:Nat} {F:Nat→Nat→HV} {t:Int} {f:FuncId} {caps:Nat→HV} (hc:caps 0=.pt id g 0 0) (h:F 0 0=intV t):Fz ((id,⟨g,1,1,ty,fl,F⟩)::sh) (.fn (.func f) 1 caps) (.fn (.func f) 1 (fun _=>.fp 1 (fun _=>intV t))) :=
 .fn _ _ _ _ fun i hi=>by
  obtain rfl:i=0:=Nat.lt_one_iff.1 hi
  rw [hc]
  refine .pt id g 0 0 1 ⟨g,1,1,ty,fl,F⟩ _ (List.mem_cons_self ..) rfl (by show 0 < 1;omega) (by show 0+1≤1;omega) fun j hj=>?_
  obtain rfl:j=0:=Nat.lt_one_iff.1 hj
  show Fz _ (F 0 0) _
  rw [h];exact .imm _
theorem d2O (c0:Nat) (R:List (List Int)) (A:List Bool) (P:List Int) (fr tq:Int) (hR:b4t R) (hRl:R.length≤30) (hPl:P.length≤1000000):a2y Tryz.prog 11 c0 [tabP R A,intV fr,intV tq,a0i P] [] (a4Q (fun (_:Unit) _=>True) (fun _=>c6O (a5p R P (fun k=>decide ((k:Int)=tq)) fr)) (fun _=>[])):=by
 refine a0p Tryz.func11 rfl kr _ _ _ _ rfl 28 rfl rfl (fun X ok hX=>?_)
 refine ru 16 ?_
 first
 | refine stg 13 (fun hb=>a0e (xs:=[_]) (a6g R A) ⟨rfl,trivial⟩ ⟨(Fz.eq rfl),trivial⟩) rfl rfl rfl rfl rfl ?_
 | refine sth 13 (fun hb=>a0e (xs:=[_]) (a6g R A) ⟨rfl,trivial⟩ ⟨(Fz.eq rfl),trivial⟩) rfl rfl rfl rfl rfl ?_
 refine ru 4 ?_
 refine wdc (fun hr0 hc0=>?_) (fun hr0 hc0=>?_)
 ·refine ru 1 ?_
  rw [a6b (by simp at hr0;omega)]
  refine ru 8 ?_
  refine a1q ok hX a2j.one rfl (a0f rfl) (a0f rfl) (a0f rfl) [] rfl pre0 (()) (trivial) (by rfl) (by rfl) ((.fz _ _ b1X)) ?_
  exact trivial
 refine ru 3 ?_
 obtain ⟨f,rfl⟩:∃ f:Nat,fr=(f:Int):=⟨fr.toNat,by simp at hr0;omega⟩;have hf:f < R.length:=by simp at hr0;omega
 refine ru 4 ?_
 refine a0n 22 (xs:=[_,_,_]) (pre:=[]) (c5z _ R A P f hR hRl hf hPl) ⟨rfl,⟨rfl,⟨rfl,trivial⟩⟩⟩ pre0 rfl rfl (fun B c1 hB=>?_)
 (try dsimp only)
 refine ru 1 ?_
 refine (a1b 23 [(6,_)] rfl (a0h rfl pre0) rfl ((d0v (t:=tq) (by first | rfl | exact rfl) (by first | rfl | exact rfl)))).seq ?_
 refine a0n 24 (xs:=[_,_]) (pre:=[]) (c6E _ B _ (fun k=>decide ((k:Int)=tq)) (fun k=>fun h0 hx=>a6m (cs:=[HV.fp 1 (fun _=>intV tq)]) (d0B k tq) h0 rfl (fun i hi=>by obtain rfl:i=0:=Nat.lt_one_iff.1 hi;rfl) hx ⟨.imm _,.fp _ _ lrf _ _ (fun _ _=>.imm _),trivial⟩) (by rw [hB.len];omega) (fun v=>Nat.le_trans (hB.wl v) om)) ⟨rfl,⟨rfl,trivial⟩⟩ pre0 rfl rfl (fun u c2 hx2=>?_)
 (try dsimp only)
 refine ru 9 ?_
 refine a1q ok hX a2j.one rfl (a0f rfl) (a0f rfl) (a0f rfl) [] rfl pre0 (()) (trivial) (by rfl) (by rfl) ((by rw [a5d hB hf,←hB.len];exact .fz _ _ (b9C _))) ?_
 exact trivial
theorem d0K (c0:Nat) (P:List Int):a2y Tryz.prog 11 c0 [b4P,intV 0,intV 0,a0i P] [] (a4Q (fun (_:Unit) _=>True) (fun _=>c6O Wy.zero) (fun _=>[])):=by
 refine a0p Tryz.func11 rfl kr _ _ _ _ rfl 28 rfl rfl (fun X ok hX=>?_)
 refine ru 16 ?_
 first
 | refine stg 13 (fun hb=>a0e (xs:=[_]) (a5W) ⟨rfl,trivial⟩ ⟨(Fz.eq rfl),trivial⟩) rfl rfl rfl rfl rfl ?_
 | refine sth 13 (fun hb=>a0e (xs:=[_]) (a5W) ⟨rfl,trivial⟩ ⟨(Fz.eq rfl),trivial⟩) rfl rfl rfl rfl rfl ?_
 refine ru 4 ?_
 refine wdc (fun hr0 hc0=>?_) (fun hr0 hc0=>?_)
 ·refine ru 9 ?_
  refine a1q ok hX a2j.one rfl (a0f rfl) (a0f rfl) (a0f rfl) [] rfl pre0 (()) (trivial) (by rfl) (by rfl) ((.fz _ _ b1X)) ?_
  exact trivial
 exfalso;simp at hr0
@[reducible] def rwF (w:Wy):Nat→HV:=fun j=>match j with
 | 0=>a0i w.word
 | 1=>intV w.price
 | _=>boolV w.known
@[reducible] def rwV (w:Wy):HV:=.agg 3 (rwF w)
def a6L (a b:Wy):Bool:=if a.known=true∧b.known=true then decide (c5L a b < 0) else a.known
theorem c8X {a b:Wy}:c5L a b < 0↔a.price < b.price∨(a.price=b.price∧(a.word.length < b.word.length∨(a.word.length=b.word.length∧a4V a.word b.word < 0))):=by
 have h:=(b6h a b).2
 have h3:=a4k a.word b.word
 have h4:a4V b.word a.word=- a4V a.word b.word:=by
  rcases h3 with h3 | h3 | h3
  ·omega
  ·rw [h3.2,a3m];rfl
  ·omega
 unfold leW at h
 omega
theorem d1A (a b:Wy) (ha:a.word.length≤1000000) (hb:b.word.length≤1000000):HPure Tryz.prog 10 [rwV a,rwV b] (boolV (a6L a b)):=by
 have hlt:=c8X (a:=a) (b:=b)
 refine a0k Tryz.func10 rfl kr _ _ _ rfl 69 rfl rfl (fun w F=>?_)
 refine ru 20 ?_
 refine wdc (fun hr0 hc0=>?_) (fun hr0 hc0=>?_)
 ·skip
  have hbv:a6L a b=a.known:=(by refine if_neg (fun h9=>?_);have h8:=hr0;rw [h9.1,h9.2] at h8;cases h8)
  refine ru 9 ?_
  refine rt1 ?_
  exact a1H hbv.symm
 have hbv:a6L a b=decide (c5L a b < 0):=(by refine if_pos ?_;have h8:=hr0;rw [Bool.or_eq_false_iff,Bool.not_eq_false',Bool.not_eq_false'] at h8;exact h8)
 refine ru 12 ?_
 refine wdc (fun hr1 hc1=>?_) (fun hr1 hc1=>?_)
 ·refine ru 12 ?_
  refine rt1 ?_
  exact a1H (by rw [hbv,decide_eq_decide];have h8:=hr1;simp at h8;omega)
 refine ru 14 ?_
 refine wdc (fun hr2 hc2=>?_) (fun hr2 hc2=>?_)
 ·refine ru 14 ?_
  refine rt1 ?_
  exact a1H (by rw [hbv,decide_eq_decide];have h8:=hr1;have h7:=hr2;simp at h8 h7;omega)
 have hp1:a.price=b.price:=(by have h8:=hr1;simpa using h8);have hl1:a.word.length=b.word.length:=(by have h8:=hr2;simp at h8;omega)
 refine ru 9 ?_
 refine a0l (α:=Nat) (fun x c=>⟨69,[(2,.v (.pt 2 0 0 0)),(3,.v (.pt 3 1 0 0)),(5,.v (intV (x:Int)))],[(2,⟨0,1,3,40,0,fun _=>rwF a⟩),(3,⟨1,1,3,40,0,fun _=>rwF b⟩)],c⟩) (fun x=>x≤a.word.length∧a4V (a.word.drop x) (b.word.drop x)=a4V a.word b.word) (fun x=>a.word.length - x) (0) (by exact ⟨Nat.zero_le _,rfl⟩) (a0b rfl lrf tsa (a0g.cons rfl (a2m.of fun i j hi hj=>by match j,hj with | 0,_=>exact .refl _ | 1,_=>exact .refl _ | 2,_=>exact .refl _) (a0g.cons rfl (a2m.of fun i j hi hj=>by match j,hj with | 0,_=>exact .refl _ | 1,_=>exact .refl _ | 2,_=>exact .refl _) a0g.nil))) (fun k c hx NhL1 hL1=>?_)
 (try dsimp only at hx hL1 ⊢)
 obtain ⟨hk,ho⟩:=hx
 refine ru 10 ?_
 refine wdc (fun hr3 hc3=>?_) (fun hr3 hc3=>?_)
 ·skip
  have hka:k < a.word.length:=om;have hkb:k < b.word.length:=om;have hcc:=b6l hka hkb;have htr:=a2A (a.word.getD k 0) (b.word.getD k 0)
  refine ru 19 ?_
  refine wdc (fun hr4 hc4=>?_) (fun hr4 hc4=>?_)
  ·skip
   have hne:a.word.getD k 0≠b.word.getD k 0:=(by simpa using hr4)
   refine ru 19 ?_
   refine a0q ?_
   refine ru 2 ?_
   refine rt1 ?_
   exact a1H (by rw [hbv,decide_eq_decide,hlt];rw [ho,if_pos om] at hcc;simp only [Nat.zero_add,Int.toNat_natCast];omega)
  have he:a.word.getD k 0=b.word.getD k 0:=(by simpa using hr4)
  refine ru 8 ?_
  exact hL1 (k+1) _ _ (by (try dsimp only);exact ⟨by omega,by rw [←ho,hcc,if_neg om]⟩) omd (a0b rfl lrf tsa hsa)
 refine ru 2 ?_
 refine a0c ?_
 refine ru 8 ?_
 refine rt1 ?_
 exact a1H (by rw [hbv];symm;rw [decide_eq_false_iff_not,hlt];have h9:a4V a.word b.word=0:=(by rw [←ho,List.drop_eq_nil_of_le (show a.word.length≤k by omega),List.drop_eq_nil_of_le (show b.word.length≤k by omega)];rfl);omega)
theorem b7n {B:List Wy} {acc:Nat→Bool}:∀ k,(a1r B acc k).known=true→∃ v,v < k∧acc v=true∧(bw B v).known=true∧a1r B acc k=bw B v
  | 0,h=>by cases h
  | k + 1, h => by
    unfold a1r at h ⊢
    by_cases hc:(bw B k).known=true∧acc k=true∧a1R (bw B k) (a1r B acc k)=true
    · rw [if_pos hc];exact ⟨k,Nat.lt_succ_self _,hc.2.1,hc.1,rfl⟩
    · rw [if_neg hc] at h ⊢
      obtain ⟨v,h1,h2⟩:=b7n k h
      exact ⟨v,Nat.lt_succ_of_lt h1,h2⟩
theorem a8j {B:List Wy} {acc:Nat→Bool}:∀ k v,v < k→acc v=true→(bw B v).known=true→(a1r B acc k).known=true∧leW (a1r B acc k) (bw B v)
  | 0,v,h,_,_=>absurd h (Nat.not_lt_zero _)
  | k + 1, v, h, ha, hk => by
    unfold a1r
    by_cases hc:(bw B k).known=true∧acc k=true∧a1R (bw B k) (a1r B acc k)=true
    · rw [if_pos hc]
      refine ⟨hc.1,?_⟩
      rcases Nat.lt_or_ge v k with h1 | h1
      · have h2:=a8j k v h1 ha hk
        exact a1D (a7m hc.2.2 h2.1) h2.2
      · obtain rfl:v=k:=by omega
        exact a3J _
    · rw [if_neg hc]
      rcases Nat.lt_or_ge v k with h1 | h1
      · exact a8j k v h1 ha hk
      · obtain rfl:v=k:=by omega
        have h2:a1R (bw B v) (a1r B acc v)=false:=by
          cases hq:a1R (bw B v) (a1r B acc v) with
          | false=>rfl
          | true=>exact absurd ⟨hk,ha,hq⟩ hc
        exact a5j.1 h2
theorem c4T (s:List UInt8) (hs:s≠[]):HPure Tryz.prog 23 [strV s] (bagH (a3h [bz s 0 - 97])):=by
 have hl:0 < s.length:=List.length_pos_iff.2 hs
 have hb8:(s.getD 0 0).toNat < 256:=UInt8.toNat_lt _
 have hb9:(s[0]?.getD 0).toNat < 256:=UInt8.toNat_lt _
 refine a0k Tryz.func23 rfl kr _ _ _ rfl 9 rfl rfl (fun w F=>?_)
 refine ru 11 ?_
 refine a0y 7 (a0d (id:=7) (hs:=[_]) ei_23.h omx rfl omx ⟨rfl,rfl,rfl,rfl,trivial⟩) rfl rfl pre0 rfl rfl (c':=2) rfl ?_
 refine hm_ 8 (a7e (xs:=[_]) [(7,_)] (d3t [bz s 0 - 97] sml) ⟨rfl,trivial⟩ ⟨(show Fz _ _ (a0i [bz s 0 - 97]) from a2v (l:=[bz s 0 - 97]) (enc:=fun x _=>intV x) (d:=0) (List.mem_cons_self ..) rfl rfl lrf (fun i j hi hj=>by match i,hi,j,hj with | 0,_,0,_=>exact b5v (by show _=bz s 0 - 97;rw [a3R hl];rfl))),trivial⟩ rfl) rfl rfl (a0h rfl pre0) rfl rfl (c':=3) rfl ?_
 refine ru 4 ?_
 refine rt1 ?_
 exact a2o (by exact j4 rfl rfl rfl rfl)
def d2p:List UInt8:=[97,43,32,40,98,32,124,32,99,41]
def c9C:List Sg:=[⟨1,0,0,0,[97]⟩,⟨5,1,1,-1,[]⟩,⟨2,3,0,0,[]⟩,⟨1,4,0,0,[98]⟩,⟨4,6,0,0,[]⟩,⟨1,8,0,0,[99]⟩,⟨3,9,0,0,[]⟩]
def b2x:T:=.many 2 [.times 1 (-1) (.name [97]),.many 3 [.name [98],.name [99]]]
theorem b9N:(match lexV d2p with | .ok l=>decide (l=c9C) | .error _=>false)=true:=by decide +kernel
theorem a7p:lexV d2p=.ok c9C:=by
 have:=b9N
 split at this
 ·rename_i l hl;rw [hl,of_decide_eq_true this]
 ·cases this
theorem c1w:b2x.ok=true:=by decide +kernel
theorem b6I:Seg c9C 3 0 c9C.length b2x:=by
  have hin:Seg c9C 3 3 6 (.many 3 [.name [98],.name [99]]):=by
    refine .choice 3 6 [.name [98],.name [99]] (fun i=>match i with | 0=>3 | _=>5) (fun i=>match i with | 0=>4 | _=>6) dcd rfl rfl (fun i hi=>?_) (fun i hi=>?_)
    · match i, hi with
      | 0,_=>exact .row1 _ _ _ (.item 3 4 (.name [98]) (.name 3 dcd) dcd)
      | 1,_=>exact .row1 _ _ _ (.item 5 6 (.name [99]) (.name 5 dcd) dcd)
    · have hi:i+1 < 2:=hi
      obtain rfl:i=0:=by omega
      exact ⟨by decide,rfl⟩
  refine .choice1 _ _ _ (.row 0 7 [.times 1 (-1) (.name [97]),.many 3 [.name [98],.name [99]]] (fun i=>match i with | 0=>0 | 1=>2 | _=>7) dcd rfl rfl (fun i hi=>?_))
  match i,hi with
  | 0,_=>exact .times 0 1 (.name [97]) (.name 0 dcd) dcd
  | 1,_=>exact .item 2 7 _ (.group 2 6 _ dcd hin dcd) dcd
theorem c2f {r:List Pt×Int×Int} (h:ParseIs d2p r):r=(T.flat 0 b2x,0,0):=by
 have hne:c9C≠[]:=by decide
 have hc:chk c9C 0 0 true true=(-1,false):=b2l b6I
 cases h with
 | err e hv=>rw [a7p] at hv;cases hv
 | none hv=>rw [a7p] at hv;injection hv with hv;exact absurd hv hne
 | odd l q hv _ _ hq=>rw [a7p] at hv;injection hv with hv;subst hv;rw [hc] at hq;injection hq with hq _;exact absurd hq omo
 | end_ l hv _ hq=>rw [a7p] at hv;injection hv with hv;subst hv;rw [hc] at hq;injection hq with _ hq;cases hq
 | ok l t hv hs=>rw [a7p] at hv;injection hv with hv;subst hv;rw [c2G hs b6I]
def b9w (s:List UInt8):Bag:=a3h [bz s 0 - 97]
theorem c7x:MeanOk 23 0 (fun _=>default) [] b9w :=
 ⟨rfl,fun i hi=>absurd hi (Nat.not_lt_zero _),trivial,fun sh=>.fn _ _ _ _ (fun i hi=>absurd hi (Nat.not_lt_zero _)),fun s hs=>c4T s (c5p hs),fun s=>(a1X _).1⟩
theorem c4E:noneV b9w (T.flat 0 b2x)=false:=by decide +kernel
theorem c8W:b2x.w=3:=by decide +kernel
@[reducible] def d3d:Option (List Bag×List (List Int)):=tabV (0+b2x.w) (lay b9w b2x 0).on (links (fun _=>Bag.zero) (lay b9w b2x 0).lk) (lay b9w b2x 0).pc
@[reducible] def c3S (S:List Bag):List Bool:=accS (lay b9w b2x 0).pc.empty (lay b9w b2x 0).pc.ends S
def lw3:Nat→List (List Int)
 | 0=>[[]]
 | n+1=>(lw3 n).flatMap fun w=>[0::w,1::w,2::w]
theorem c1U:∀ w:List Int,(∀ s∈w,s=0∨s=1∨s=2)→w∈lw3 w.length
  | [],_=>List.mem_singleton_self _
  | a :: w, h => by
    refine List.mem_flatMap.2 ⟨w,c1U w (fun s hs=>h s (List.mem_cons_of_mem _ hs)),?_⟩
    rcases h a (List.mem_cons_self ..) with rfl | rfl | rfl <;> simp
def b4d (S:List Bag) (R:List (List Int)) (w:List Int):Bool:=decide (0≤runX R 0 w)&&b0F R (c3S S) (runX R 0 w).toNat
theorem c3T:(match d3d with | some (S,R)=>decide (0 < R.length)&&decide (R.length≤30)&&b4d S R [0,2]&&([0,1,2,3].all fun n=>(lw3 n).all fun w=>!b4d S R w||decide (3 < priceW [1,5,2] w)||decide (w=[0,2])) | none=>false)=true:=by decide +kernel
theorem c7n:∃ S R,d3d=some (S,R)∧0 < R.length∧R.length≤30∧b4d S R [0,2]=true∧∀ w:List Int,w.length≤3→(∀ s∈w,s=0∨s=1∨s=2)→b4d S R w=true→priceW [1,5,2] w≤3→w=[0,2]:=by
 have:=c3T
 split at this
 ·rename_i S R h
  simp only [Bool.and_eq_true,decide_eq_true_eq] at this
  obtain ⟨⟨⟨h1,h2⟩,h3⟩,h4⟩:=this
  refine ⟨S,R,h,h1,h2,h3,fun w hw hs hg hp=>?_⟩
  have h5:=List.all_eq_true.1 h4 w.length (by rcases Nat.lt_or_ge w.length 4 with h9 | h9;(match w.length,h9 with | 0,_=>simp | 1,_=>simp | 2,_=>simp | 3,_=>simp);omega)
  have h6:=List.all_eq_true.1 h5 w (c1U w hs)
  simp only [hg,Bool.not_true,Bool.false_or,Bool.or_eq_true,decide_eq_true_eq] at h6
  rcases h6 with h6 | h6
  ·omega
  ·exact h6
 ·cases this
theorem d4c:HPure Tryz.prog 18 [treeNet b9w b2x] (d3n (lay b9w b2x 0).pc d3d):=by
 have hm:∀ s,(b9w s).ok:=fun s=>(a1X _).1
 have hly:=a4l hm b2x 0 (by rw [c8W];decide)
 refine b4F (0+b2x.w) (by rw [c8W];decide) _ (fun i=>?_) _ (a1i hly.lk (fun _=>Bag.zero_ok)) _ hly.pc
 show ((lay b9w b2x 0).on.getD i Bag.zero).ok
 by_cases hi:i < (lay b9w b2x 0).on.length
 ·rw [List.getD_eq_getElem?_getD,List.getElem?_eq_getElem hi];exact hly.on _ (List.getElem_mem hi)
 ·rw [List.getD_eq_getElem?_getD,List.getElem?_eq_none omo];exact Bag.zero_ok
theorem c2C {R:List (List Int)} {P:List Int} {B:List Wy} {A:List Bool} (h:WaysOk R P 0 B) {u:List Int} {v:Nat} (hu:∀ s∈u,∃ k:Nat,s=(k:Int)∧k < 32∧priceOk P k=true) (hr:runX R 0 u=(v:Int)) (hv:v < R.length) (ha:b0F R A v=true):(a1r B (b0F R A) B.length).known=true∧leW (a1r B (b0F R A) B.length) ⟨priceW P u,u,true⟩:=by
 have h1:=h.best u v hu hr
 have h2:=a8j (acc:=b0F R A) B.length v (by rw [h.len];exact hv) ha h1.1
 exact ⟨h2.1,a1D h2.2 h1.2⟩
theorem b3A {P:List Int} (hP:∀ k,priceOk P k=true→1≤P.getD k 0):∀ l:List Int,(∀ s∈l,∃ k:Nat,s=(k:Int)∧k < 32∧priceOk P k=true)→(l.length:Int)≤priceW P l
  | [],_=>Int.le_refl _
  | a :: l, h => by
    obtain ⟨k,rfl,_,hk⟩:=h a (List.mem_cons_self ..)
    have:=hP k hk
    have ih:=b3A hP l fun x hx=>h x (List.mem_cons_of_mem _ hx)
    show ((l.length+1:Nat):Int)≤P.getD ((k:Int)).toNat 0+priceW P l
    rw [Int.toNat_natCast];omega
theorem d3O:∀ k,priceOk [1,5,2] k=true→1≤([1,5,2]:List Int).getD k 0:=fun k h=>by
 unfold priceOk at h
 simp only [Bool.and_eq_true,decide_eq_true_eq] at h
 match k,h.1.1 with
 | 0,_=>decide
 | 1,_=>decide
 | 2,_=>decide
theorem d2G {S:List Bag} {R:List (List Int)} (hg:b4d S R [0,2]=true) (hu:∀ w:List Int,w.length≤3→(∀ s∈w,s=0∨s=1∨s=2)→b4d S R w=true→priceW [1,5,2] w≤3→w=[0,2]) {B:List Wy} (h:WaysOk R [1,5,2] 0 B):(a1r B (b0F R (c3S S)) B.length).known=true∧(a1r B (b0F R (c3S S)) B.length).price=3∧(a1r B (b0F R (c3S S)) B.length).word=[0,2]:=by
 have hg2:=hg
 unfold b4d at hg2
 rw [Bool.and_eq_true,decide_eq_true_eq] at hg2
 have hv:(runX R 0 [0,2]).toNat < R.length:=by
  have:=hg2.2
  unfold b0F c9R at this
  simp only [Bool.and_eq_true,decide_eq_true_eq] at this
  omega
 have hb:=c2C (A:=c3S S) h (u:=[0,2]) (v:=(runX R 0 [0,2]).toNat) (fun s hs=>by
  rcases List.mem_cons.1 hs with rfl | hs
  ·exact ⟨0,rfl,by decide,by decide⟩
  ·rw [List.mem_singleton.1 hs];exact ⟨2,rfl,by decide,by decide⟩) omo hv hg2.2
 obtain ⟨v,hv1,hv2,hv3,hv4⟩:=b7n B.length hb.1
 have hok:=h.ok v hv3
 rw [←hv4] at hok
 generalize a1r B (b0F R (c3S S)) B.length=o at hb hok ⊢
 have hle:o.price≤3:=by
  have e:priceW [1,5,2] [0,2]=3:=by decide
  have h9:o.price < priceW [1,5,2] [0,2]∨(o.price=priceW [1,5,2] [0,2]∧_):=hb.2
  rw [e] at h9
  omega
 have hge:=b3A d3O _ hok.2.2
 rw [←hok.2.1] at hge
 have hw:=hu o.word omo (fun s hs=>by
  obtain ⟨k,rfl,_,hk⟩:=hok.2.2 s hs
  unfold priceOk at hk
  simp only [Bool.and_eq_true,decide_eq_true_eq] at hk
  have:=hk.1.1
  have:k < 3:=this
  omega) (by
  unfold b4d
  rw [show runX R 0 o.word=(v:Int) from hok.1]
  simp only [Int.toNat_natCast,hv2,Bool.and_true,decide_eq_true_eq];omega) (by rw [←hok.2.1];exact hle)
 exact ⟨hb.1,by rw [hok.2.1,hw];decide,hw⟩
theorem c6t {sh:List (Nat×HObj)} {id g ty fl:Nat} {f:Nat→Nat→HV} {l:List Int} (h:∀ i,i < l.length→Fz ((id,⟨g,l.length,1,ty,fl,f⟩)::sh) (f i 0) (intV (l.getD i 0))):Fz ((id,⟨g,l.length,1,ty,fl,f⟩)::sh) (.os id g 0 l.length) (a0i l) :=
 .os _ _ _ _ _ _ (List.mem_cons_self ..) rfl sml fun i j hi hj=>by
  have hj:j < 1:=hj
  obtain rfl:j=0:=by omega
  rw [Nat.zero_add];exact h i hi
theorem a8e:HPure Tryz.prog 6 [] (boolV true):=by
 have hw:=c8W
 have hB:=b6V c1w (by decide +kernel)
 have hn:=d4c
 obtain ⟨S,R,e8,h2,h3,h4,h5⟩:=c7n
 have hrw:=b3P e8
 rw [e8] at hn
 refine a0k Tryz.func6 rfl kr _ _ _ rfl 47 rfl rfl (fun w F=>?_)
 refine ru 7 ?_
 refine a0n 12 (xs:=[_]) (pre:=[]) (b5H _ d2p dcd) ⟨rfl,trivial⟩ pre0 rfl rfl (fun r c1 hr=>?_)
 (try dsimp only)
 refine ru 10 ?_
 obtain rfl:=c2f hr
 refine ru 2 ?_
 refine cll (c7p c7x (T.flat 0 b2x) hB _ (.fine b2x c1w rfl c4E (by rw [hw];decide))) ?_
 refine ru 10 ?_
 refine cll (hn) ?_
 refine ru 10 ?_
 refine a0y 28 (a0d (id:=28) (hs:=[_,_,_]) ei_23.h omx rfl omx ⟨rfl,rfl,rfl,rfl,⟨rfl,rfl,rfl,rfl,⟨rfl,rfl,rfl,rfl,trivial⟩⟩⟩) rfl rfl pre0 rfl rfl (c':=c1+1) rfl ?_
 refine (a1b 28 [(28,_)] rfl (a0h rfl pre0) rfl ((c6t (l:=[1,5,2]) (fun i hi=>by match i,hi with | 0,_=>exact .imm _ | 1,_=>exact .imm _ | 2,_=>exact .imm _)))).seq ?_
 refine a0n 29 (xs:=[_,_,_]) (pre:=[]) (b7a _ R (c3S S) [1,5,2] 0 hrw h3 dcd) ⟨rfl,⟨rfl,⟨rfl,trivial⟩⟩⟩ pre0 rfl rfl (fun u9 c2 hWA=>?_)
 (try dsimp only)
 refine ru 10 ?_
 have hW9:=hWA 0 rfl h2;have e9:a5p R [1,5,2] (b0F R (c3S S)) 0=_:=a5d hW9 h2;obtain ⟨p1,p2,p3⟩:=d2G h4 h5 hW9;rw [hW9.len,←e9] at p1 p2 p3;generalize a5p R [1,5,2] (b0F R (c3S S)) 0=o9 at p1 p2 p3 ⊢;obtain ⟨zp,zw,zk⟩:=o9;dsimp only at p1 p2 p3;subst p1;subst p2;subst p3
 refine ru 4 ?_
 refine rvl (boolV true) (rfl) ?_
 refine c3r 36 35 true (a1p rfl) rfl rfl rfl rfl pre0 rfl rfl ?_
 refine s0 (a4O rfl rfl) ?_
 refine ru 1 ?_
 refine rvl (boolV true) (rfl) ?_
 refine c3r 39 38 true (a1p rfl) rfl rfl rfl rfl pre0 rfl rfl ?_
 refine c3r 40 38 true hqi rfl rfl rfl rfl pre0 rfl rfl ?_
 refine s0 (a4O rfl rfl) ?_
 refine ru 1 ?_
 refine rvl (boolV true) (rfl) ?_
 refine c3r 43 42 true (a1p rfl) rfl rfl rfl rfl pre0 rfl rfl ?_
 refine d2m 44 42 true (a0d (id:=44) (hs:=[_,_]) ei_23.h omb rfl omb ⟨rfl,rfl,rfl,rfl,⟨rfl,rfl,rfl,rfl,trivial⟩⟩) rfl rfl rfl rfl pre0 rfl rfl (c':=c2+1) rfl ?_
 refine d2m 45 42 true (a7e (xs:=[_,_]) [(44,_)] (a4Y [0,2] [0,2] dcd dcd) ⟨rfl,⟨rfl,trivial⟩⟩ ⟨(show Fz _ (a0i [0,2]) (a0i [0,2]) from Frz.fz),⟨(c6t (l:=[0,2]) (fun i hi=>by match i,hi with | 0,_=>exact .imm _ | 1,_=>exact .imm _)),trivial⟩⟩ rfl) rfl rfl rfl rfl (a0h rfl pre0) rfl rfl (c':=c2+2) rfl ?_
 refine s0 (a4O rfl rfl) ?_
 refine ru 4 ?_
 refine rt1 ?_
 exact .imm _
@[reducible] def c9P (g:Nat) (B:List Wy):HObj:=⟨g,B.length,3,40,0,fun i=>rwF (bw B i)⟩
@[reducible] def d3B (B:List Wy):HV:=.sl 3 B.length (fun i=>rwF (bw B i))
theorem b1s {sh:List (Nat×HObj)} (w:Wy):∀ j,j < 3→Fz sh (rwF w j) (rwF w j):=fun j hj=>by
 match j,hj with
 | 0,_=>exact (show Fz _ (a0i w.word) (a0i w.word) from Frz.fz)
 | 1,_=>exact .imm _
 | 2,_=>exact .imm _
theorem c1G {g n:Nat} {f:Nat→Nat→HV} {B:List Wy} (hn:n=B.length) (h:∀ i j,i < n→j < 3→Sb (f i j) (rwF (bw B i) j)):a2m ⟨g,n,3,40,0,f⟩ (c9P g B) :=
 ⟨rfl,hn,rfl,rfl,Nat.le_refl _,h,fun h=>absurd h (Nat.not_lt_zero _)⟩
theorem a8U:∀ j,j < 3→Sb (.imm ([Value.slice none 0 0,Value.int .i64 0,Value.bool false].getD j undef)) (rwF Wy.zero j):=fun j hj=>by
 match j,hj with
 | 0,_=>exact .nil 0 1 _ dcd none
 | 1,_=>exact .refl _
 | 2,_=>exact .refl _
theorem c9n {g n m fr a:Nat} (hn:m=n) (ha:a=fr) (hf:fr < n):a2m ⟨g,m,3,40,0,upd (fun x j=>.imm ([Value.slice none 0 0,Value.int .i64 0,Value.bool false].getD j undef)) a (0+2) 1 fun j=>(boolV true).cell j⟩ (c9P g (a9E n fr)):=by
 subst ha;subst hn
 refine c1G (by simp [a9E]) fun i j hi hj=>?_
 by_cases h:i=a
 ·subst h
  rw [show bw (a9E m i) i=⟨0,[],true⟩ from a1d (by rw [List.length_replicate];exact hi)]
  match j,hj with
  | 0,_=>rw [a1G omo];exact .nil 0 1 _ dcd none
  | 1,_=>rw [a1G omo];exact .refl _
  | 2,_=>rw [a4t ⟨rfl,Nat.le_refl _,by omega⟩];exact .refl _
 ·rw [a1G (fun h9=>h h9.1),show bw (a9E m a) i=Wy.zero from by unfold a9E;rw [a2P h,c1b]]
  exact a8U j hj
theorem b9U {g t a:Nat} {B:List Wy} {w:Wy} (ha:a=t) (ht:t < B.length):a2m ⟨g,B.length,3,40,0,upd (fun i=>rwF (bw B i)) a 0 3 fun j=>(rwV w).cell j⟩ (c9P g (B.set t w)):=by
 subst ha
 refine c1G sml fun i j hi hj=>?_
 by_cases h:i=a
 ·subst h
  rw [a1d hi,a4t ⟨rfl,Nat.zero_le _,by omega⟩];exact .refl _
 ·rw [a1G (fun h9=>h h9.1),a2P h];exact .refl _
theorem b8Q {g:Nat} {f:Nat→Nat→HV} {w:Wy} (h:∀ j,j < 3→Sb (f 0 j) (rwF w j)):a2m ⟨g,1,3,40,0,f⟩ ⟨g,1,3,40,0,fun _=>rwF w⟩:=.of fun i j hi hj=>by
 obtain rfl:i=0:=by omega
 exact h j hj
theorem d1x {sh:List (Nat×HObj)} {id g ty n:Nat} {F:Nat→Nat→HV} {l:List Int} {x:Int} (hn:n=l.length) (hF:∀ i,i < l.length→F i 0=intV (l.getD i 0)):Fz ((id,⟨g,n+1,1,ty,0,cat n F (bsf [intV x])⟩)::sh) (.os id g 0 (n+1)) (a0i (l++[x])):=by
 subst hn
 have e:a0i (l++[x])=.sl 1 (l.length+1) (a4C (l++[x])):=by show HV.sl 1 (l++[x]).length _=_;rw [List.length_append];rfl
 rw [e]
 refine .os _ _ _ _ _ _ (List.mem_cons_self ..) rfl sml fun i j hi hj=>?_
 have hj:j < 1:=hj
 obtain rfl:j=0:=by omega
 show Fz _ (cat l.length F (bsf [intV x]) (0+i) 0) (intV ((l++[x]).getD i 0))
 rw [Nat.zero_add]
 by_cases h:i < l.length
 ·rw [a6B h,hF i h,List.getD_eq_getElem?_getD (l:=l++[x]),List.getElem?_append_left h,←List.getD_eq_getElem?_getD];exact .imm _
 ·obtain rfl:i=l.length:=by omega
  rw [a5O lrf,Nat.sub_self,List.getD_eq_getElem?_getD,List.getElem?_append_right lrf,Nat.sub_self];exact .imm _
theorem c2U {w o:Wy} (hk:w.known=true):a1R w o=a6L w o:=by
 unfold a1R a6L
 cases ho:o.known with
 | false=>rw [hk];rfl
 | true=>rw [hk];rfl
theorem b7b {kn:Bool} {t:Int} {s:Nat} {P:List Int} (hs:s < P.length):((!kn||decide (t < 0)||decide (P.getD s 0 < 0)||decide (1000000 < P.getD s 0))=true→kn=false∨t < 0∨priceOk P s=false)∧((!kn||decide (t < 0)||decide (P.getD s 0 < 0)||decide (1000000 < P.getD s 0))=false→kn=true∧0≤t∧priceOk P s=true):=by
 unfold priceOk
 simp only [Bool.or_eq_true,Bool.or_eq_false_iff,Bool.not_eq_true',Bool.not_eq_false',decide_eq_true_eq,decide_eq_false_iff_not,Bool.and_eq_true,Bool.and_eq_false_iff]
 refine ⟨fun h=>?_,fun h=>⟨h.1.1.1,by omega,⟨hs,by omega⟩,by omega⟩⟩
 rcases h with ((h | h) | h) | h
 ·exact .inl h
 ·exact .inr (.inl h)
 ·exact .inr (.inr omo)
 ·exact .inr (.inr omo)
theorem c2k (c0:Nat) (S:List Bag) (R:List (List Int)) (A:List Bool) (P:List Int) (fr:Nat) (hR:b4t R) (hS:S.length=R.length) (hRl:R.length≤30) (hf:fr < R.length) (hPl:P.length≤1000000):a2y Tryz.prog 15 c0 [tabD S R A,intV (fr:Int),a0i P] [] (a4Q (fun B _=>WaysOk R P fr B) (fun B=>d3B B) (fun _=>[])):=by
 refine a0p Tryz.func15 rfl kr _ _ _ _ rfl 102 rfl rfl (fun X ok hX=>?_)
 refine ru 11 ?_
 refine a0y 16 (b2Z (id:=16) (n:=_) (m:=_) ei_48.h omx omx rfl rfl rfl rfl omx omx omx rfl) rfl rfl pre0 rfl rfl (c':=c0+2) rfl ?_
 refine ru 19 ?_
 refine a0l (α:=List Wy×Nat×Bool) (fun x c=>⟨102,[(2,.v (a0i P)),(3,.v (.pt 3 c0 0 0)),(7,.v (.os 16 (c0+1) 0 x.1.length)),(8,.v (boolV x.2.2))],[(3,⟨c0,1,3,29,0,fun _=>tdF S R A⟩),(16,c9P (c0+1) x.1)],c⟩) (fun x=>DO R P fr x.1 x.2.1 x.2.2) (fun x=>R.length+1 - x.2.1) ((a9E R.length fr,0,true)) (by exact DO.begin hf) (a0b rfl lrf (tsr rfl (tsr rfl (a0u.cons rfl (a3A (by simp [a9E,hS])) tsa))) (a0g.cons rfl (b9f (.refl _) (.refl _) (.refl _)) (a0g.cons rfl (c9n hS om hf) a0g.nil))) (fun x c hx NhL1 hL1=>?_)
 revert hx hL1;obtain ⟨B,k,turned⟩:=x;intro hx hL1;dsimp only at hx hL1 ⊢
 refine ru 6 ?_
 refine wdc (fun hr0 hc0=>?_) (fun hr0 hc0=>?_)
 ·skip
  have hO:=hx;have htu:turned=true:=(by simpa using hr0);have hlen:=hO.len
  refine ru 14 ?_
  refine a0l (α:=Nat×List Wy×Bool) (fun x c=>⟨102,[(2,.v (a0i P)),(3,.v (.pt 3 c0 0 0)),(7,.v (.os 16 (c0+1) 0 x.2.1.length)),(8,.v (boolV x.2.2)),(9,.v (intV (x.1:Int)))],[(3,⟨c0,1,3,29,0,fun _=>tdF S R A⟩),(16,c9P (c0+1) x.2.1)],c⟩) (fun x=>x.1≤R.length∧DI R P fr x.2.1 k x.1 0 x.2.2) (fun x=>R.length - x.1) ((0,B,false)) (by exact ⟨Nat.zero_le _,hO.round⟩) (a0b rfl lrf tsa hsa) (fun x c hx NhL2 hL2=>?_)
  revert hx hL2;obtain ⟨a,B1,tu⟩:=x;intro hx hL2;dsimp only at hx hL2 ⊢
  obtain ⟨ha1,hy⟩:=hx
  have hlen1:=hy.len
  refine ru 9 ?_
  refine wdc (fun hr1 hc1=>?_) (fun hr1 hc1=>?_)
  ·skip
   have haR:a < R.length:=om
   refine ru 10 ?_
   refine a0l (α:=Nat×List Wy×Bool) (fun x c=>⟨102,[(2,.v (a0i P)),(3,.v (.pt 3 c0 0 0)),(7,.v (.os 16 (c0+1) 0 x.2.1.length)),(8,.v (boolV x.2.2)),(9,.v (intV (a:Int))),(10,.v (intV (x.1:Int)))],[(3,⟨c0,1,3,29,0,fun _=>tdF S R A⟩),(16,c9P (c0+1) x.2.1)],c⟩) (fun x=>x.1≤32∧DI R P fr x.2.1 k a x.1 x.2.2) (fun x=>32 - x.1) ((0,B1,tu)) (by exact ⟨Nat.zero_le _,hy⟩) (a0b rfl lrf tsa hsa) (fun x c hx NhL3 hL3=>?_)
   revert hx hL3;obtain ⟨s,B2,tv⟩:=x;intro hx hL3;dsimp only at hx hL3 ⊢
   obtain ⟨hs1,hz⟩:=hx
   have hlen2:=hz.len
   refine ru 13 ?_
   refine wdc (fun hr2 hc2=>?_) (fun hr2 hc2=>?_)
   ·skip
    have hs32:s < 32:=(by simp at hr2;omega);have hsP:s < P.length:=(by simp at hr2;omega);have hnx:=d0g haR hs32;have hin:=c0F hR a s
    refine ru 13 ?_
    refine rvl (intV (nxT R a s)) ((by rw [hnx];show intV ((R.getD a []).getD (s * 1+0) 0)=_;rw [show s * 1+0=s by omega])) ?_
    refine ru 11 ?_
    refine rvl (boolV (bw B2 a).known) ((by rw [Nat.zero_add,Int.toNat_natCast];rfl)) ?_
    refine ru 10 ?_
    refine ry (intV (P.getD s 0)) rfl (fun hb=>rfl) ?_
    refine ru 7 ?_
    refine ry (intV (P.getD s 0)) rfl (fun hb=>rfl) ?_
    refine ru 4 ?_
    refine wdc (fun hr3 hc3=>?_) (fun hr3 hc3=>?_)
    ·refine ru 9 ?_
     exact hL3 ((s+1,B2,tv)) _ _ (by (try dsimp only);exact ⟨by omega,hz.skip ((b7b hsP).1 hr3)⟩) omd (a0b rfl lrf tsa hsa)
    obtain ⟨hkn,htp,hpk⟩:=(b7b hsP).2 hr3;obtain ⟨tq,htq⟩:∃ tq:Nat,nxT R a s=(tq:Int):=⟨(nxT R a s).toNat,by omega⟩;have htR:tq < R.length:=om;have hwl:=hz.toWB.wl hkn;have hok:=hz.ok a hkn;have hpb:=a5I P _ hok.2.2;rw [←hok.2.1] at hpb;have hp1:=a3O hpk
    refine ru 8 ?_
    first
    | refine a3d 73 (HOp.val (v':=intV (bw B2 a).price) (a0r ty_3.h rfl omy omy (fun h=>(by first | rfl | cases h))) ((by rw [Nat.zero_add,Int.toNat_natCast];rfl))) rfl rfl (a0L rfl) rfl rfl (k':=5) rfl ?_
    | refine a3d 73 (HOp.val (v':=intV (bw B2 a).price) (a0j ty_3.h rfl omy (fun h=>(by first | rfl | cases h))) ((by rw [Nat.zero_add,Int.toNat_natCast];rfl))) rfl rfl pre0 rfl rfl (k':=5) rfl ?_
    refine ru 3 ?_
    first
    | refine a3d 77 (HOp.val (v':=intV (P.getD s 0)) (a0r ty_3.h rfl omy omy (fun h=>(by first | rfl | cases h))) (rfl)) rfl rfl (a0L rfl) rfl rfl (k':=9) rfl ?_
    | refine a3d 77 (HOp.val (v':=intV (P.getD s 0)) (a0j ty_3.h rfl omy (fun h=>(by first | rfl | cases h))) (rfl)) rfl rfl pre0 rfl rfl (k':=9) rfl ?_
    refine ru 2 ?_
    refine a2x 12 (a0V (id:=12) (sz:=3) zc_40.h rfl rfl omx omx) rfl rfl pre0 rfl rfl (k':=12) rfl ?_
    refine ru 11 ?_
    refine rvl (a0i (bw B2 a).word) ((by rw [Nat.zero_add,Int.toNat_natCast];rfl)) ?_
    refine ru 2 ?_
    refine a0y 88 (a0d (id:=88) (hs:=[_]) ei_23.h omx rfl omx ⟨rfl,rfl,rfl,rfl,trivial⟩) rfl rfl pre0 rfl rfl (c':=c+16) rfl ?_
    first
    | refine a0y 89 (a0a ei_23.h omy rfl omy omy (a0D rfl omy) omy rfl) rfl rfl (a0h rfl (a0L rfl)) rfl rfl (c':=c+17) rfl ?_
    | refine a0y 89 (a0a ei_23.h omy rfl omy omy (a1a rfl omy) omy rfl) rfl rfl (a0h rfl (a0L rfl)) rfl rfl (c':=c+17) rfl ?_
    | refine a0y 89 (a0a ei_23.h omy rfl omy omy (a0Y rfl) omy rfl) rfl rfl (a0h rfl pre0) rfl rfl (c':=c+17) rfl ?_
    | refine a0y 89 (a0a ei_23.h omy rfl omy omy (a0G 1 (fun _ _=>default) rfl) omy rfl) rfl rfl (a0h rfl pre0) rfl rfl (c':=c+17) rfl ?_
    refine (a1b 89 [(80,_)] rfl (a0h rfl pre0) rfl ((d1x (l:=(bw B2 a).word) (x:=(s:Int)) (Nat.zero_add _) (fun i hi=>by rw [a5O (Nat.zero_le _),Nat.sub_zero])))).seq ?_
    refine ru 5 ?_
    refine (a0W 12 ⟨c+11,1,3,40,0,fun _=>rwF (wst P B2 a s)⟩ rfl (b8Q (fun j hj=>by match j,hj with | 0,_=>(rw [a4t ⟨rfl,Nat.le_refl _,by omega⟩];exact .refl _) | 1,_=>(rw [a1G om];exact .refl _) | 2,_=>(rw [a1G om];exact .refl _)))).wp ?_
    refine ru 1 ?_
    first
    | refine a3d 91 (HOp.val (v':=rwV (wst P B2 a s)) (a0r ty_40.h rfl omy omy (fun h=>(by first | rfl | cases h))) (rfl)) rfl rfl (a0L rfl) rfl rfl (k':=1) rfl ?_
    | refine a3d 91 (HOp.val (v':=rwV (wst P B2 a s)) (a0j ty_40.h rfl omy (fun h=>(by first | rfl | cases h))) (rfl)) rfl rfl pre0 rfl rfl (k':=1) rfl ?_
    refine ru 1 ?_
    refine d0 3 (HOp.val (v':=intV (tq:Int)) (a1p rfl) ((congrArg intV htq))) ?_
    refine ru 1 ?_
    first
    | refine a3d 95 (HOp.val (v':=rwV (bw B2 tq)) (a0r ty_40.h rfl omy omy (fun h=>(by first | rfl | cases h))) ((by rw [Nat.zero_add,Int.toNat_natCast];rfl))) rfl rfl (a0L rfl) rfl rfl (k':=5) rfl ?_
    | refine a3d 95 (HOp.val (v':=rwV (bw B2 tq)) (a0j ty_40.h rfl omy (fun h=>(by first | rfl | cases h))) ((by rw [Nat.zero_add,Int.toNat_natCast];rfl))) rfl rfl pre0 rfl rfl (k':=5) rfl ?_
    refine d0 6 (a0e (xs:=[_,_]) (d1A (wst P B2 a s) (bw B2 tq) (by simp [a2J];omega) (by have h9:=hz.toWB.wl0 tq;omega)) ⟨rfl,⟨rfl,trivial⟩⟩ ⟨(.agg _ _ _ (b1s _)),⟨(.agg _ _ _ (b1s _)),trivial⟩⟩) ?_
    refine ru 2 ?_
    refine wdc (fun hr4 hc4=>?_) (fun hr4 hc4=>?_)
    ·skip
     have hb4:=(c2U rfl).trans hr4
     refine ru 4 ?_
     refine rvl (intV (tq:Int)) ((congrArg intV htq)) ?_
     refine ru 1 ?_
     refine rvl (rwV (wst P B2 a s)) (rfl) ?_
     refine ru 14 ?_
     exact hL3 ((s+1,B2.set tq (wst P B2 a s),true)) _ _ (by (try dsimp only);exact ⟨by omega,hz.better htR hkn htq hpk hb4⟩) omd (a0b rfl lrf (tsr rfl (tsr rfl (a0u.cons rfl (a3A sml) (tsr rfl (tsr rfl (a0u.cons rfl (a0K om) a0u.nil)))))) (hsr rfl (a0g.cons rfl (b9U om om) a0g.nil)))
    have hb4:=(c2U rfl).trans hr4
    refine ru 8 ?_
    exact hL3 ((s+1,B2,tv)) _ _ (by (try dsimp only);exact ⟨by omega,hz.keep htq hb4⟩) omd (a0b rfl lrf tsa hsa)
   have hsx:32≤s∨P.length≤s:=(by simp at hr2;omega)
   refine ru 2 ?_
   refine a0c ?_
   refine ru 8 ?_
   exact hL2 ((a+1,B2,tv)) _ _ (by (try dsimp only);exact ⟨by omega,hz.row hsx⟩) omd (a0b rfl lrf tsa hsa)
  obtain rfl:a=R.length:=om
  refine ru 2 ?_
  refine a0c ?_
  refine ru 2 ?_
  exact hL1 ((B1,k+1,tu)) _ _ (by (try dsimp only);exact hy.end_) (by (try dsimp only);have h9:=hO.tk htu;omega) (a0b rfl lrf tsa hsa)
 have hO:=hx;obtain rfl:turned=false:=(by simpa using hr0)
 refine ru 2 ?_
 refine a0c ?_
 refine ru 9 ?_
 refine a1j ok hX a2j.one rfl (a0f rfl) [(16,_)] rfl (a0h rfl pre0) (B) (hO.done) (by rfl) (by rfl) ((.fz _ _ (a2v (l:=B) (enc:=rwF) (d:=default) (List.mem_cons_self ..) rfl rfl lrf (fun i j hi hj=>b1s _ j hj)))) ?_
 exact trivial
end
section
open Go.RowKit
set_option maxRecDepth 100000
set_option maxHeartbeats 1000000
theorem c2P {a o:Wy}:a6L a o=(a.known&&a1R a o):=by
 unfold a6L a1R
 cases a.known <;> cases o.known <;> simp
theorem b3H {B:List Wy} {a b:Nat→Bool}:∀ k,(∀ i,i < k→a i=b i)→a1r B a k=a1r B b k
  | 0,_=>rfl
  | k + 1, h => by
    unfold a1r
    rw [b3H k fun i hi=>h i (Nat.lt_succ_of_lt hi),h k (Nat.lt_succ_self k)]
theorem c7d {R:List (List Int)} {A:List Bool} {i:Nat} (h:i < R.length):b0F R A i=A.getD i false:=by
 unfold b0F c9R
 rw [show decide (0≤(i:Int))=true from decide_eq_true omo,show decide ((i:Int) < R.length)=true from decide_eq_true omo];rfl
theorem c8C (c0:Nat) (S:List Bag) (R:List (List Int)) (A:List Bool) (P:List Int) (fr:Nat) (hR:b4t R) (hS:S.length=R.length) (hA:A.length=S.length) (hRl:R.length≤30) (hf:fr < R.length) (hPl:P.length≤1000000):a2y Tryz.prog 13 c0 [tabD S R A,intV (fr:Int),a0i P] [] (a4Q (fun (_:Unit) _=>True) (fun _=>rwV (a5p R P (b0F R A) fr)) (fun _=>[])):=by
 refine a0p Tryz.func13 rfl kr _ _ _ _ rfl 39 rfl rfl (fun X ok hX=>?_)
 refine ru 18 ?_
 refine a0n 14 (xs:=[_,_,_]) (pre:=[]) (c2k _ S R A P fr hR hS hRl hf hPl) ⟨rfl,⟨rfl,⟨rfl,trivial⟩⟩⟩ pre0 rfl rfl (fun B c1 hB=>?_)
 (try dsimp only)
 refine ru 10 ?_
 refine a0l (α:=Nat) (fun x c=>⟨39,[(3,.v (.pt 3 c0 0 0)),(6,.v (.pt 6 (c0+1) 0 0)),(7,.v (.pt 7 (c0+2) 0 0)),(8,.v (d3B B)),(9,.v (intV (x:Int)))],[(3,⟨c0,1,3,29,0,fun _=>tdF S R A⟩),(6,⟨c0+1,1,3,40,0,fun _=>rwF Wy.zero⟩),(7,⟨c0+2,1,3,40,0,fun _=>rwF (a1r B (fun i=>A.getD i false) x)⟩)],c⟩) (fun x=>x≤B.length) (fun x=>B.length - x) (0) (by exact Nat.zero_le _) (a0b rfl lrf tsa (a0g.cons rfl (b9f (.refl _) (.refl _) (.refl _)) (a0g.cons rfl (b8Q a8U) (a0g.cons rfl (b8Q a8U) a0g.nil)))) (fun k c hx NhL1 hL1=>?_)
 (try dsimp only at hx hL1 ⊢)
 have hBl:=hB.len;have hpl:=a7t (B:=B) (acc:=fun i=>A.getD i false) hB.wl
 refine ru 9 ?_
 refine wdc (fun hr0 hc0=>?_) (fun hr0 hc0=>?_)
 ·skip
  have hk1:=hB.wl k;have hk2:=hpl k
  refine ru 11 ?_
  refine d0 6 (HOp.val (v':=boolV (A.getD k false)) (a1p rfl) (rfl)) ?_
  refine ru 3 ?_
  first
  | refine a3C 30 5 26 true _ (fun hb=>HOp.val (v':=rwV (bw B k)) (a0r ty_40.h rfl omb omb (fun h=>(by first | rfl | cases h))) ((by first | rfl | (rw [Nat.zero_add,Int.toNat_natCast];rfl)))) rfl rfl rfl rfl (a0L rfl) rfl rfl rfl (k':=10) rfl ?_
  | refine a3C 30 5 26 true _ (fun hb=>HOp.val (v':=rwV (bw B k)) (a0j ty_40.h rfl omb (fun h=>(by first | rfl | cases h))) ((by first | rfl | (rw [Nat.zero_add,Int.toNat_natCast];rfl)))) rfl rfl rfl rfl pre0 rfl rfl rfl (k':=10) rfl ?_
  first
  | refine a3C 31 5 26 true _ (fun hb=>HOp.val (v':=rwV (a1r B (fun i=>A.getD i false) k)) (a0r ty_40.h rfl omb omb (fun h=>(by first | rfl | cases h))) (rfl)) rfl rfl rfl rfl (a0L rfl) rfl rfl rfl (k':=11) rfl ?_
  | refine a3C 31 5 26 true _ (fun hb=>HOp.val (v':=rwV (a1r B (fun i=>A.getD i false) k)) (a0j ty_40.h rfl omb (fun h=>(by first | rfl | cases h))) (rfl)) rfl rfl rfl rfl pre0 rfl rfl rfl (k':=11) rfl ?_
  refine a3C 32 5 26 true _ (fun hb=>a0e (xs:=[_,_]) (d1A (bw B k) (a1r B (fun i=>A.getD i false) k) om om) ⟨rfl,⟨rfl,trivial⟩⟩ ⟨(.agg _ _ _ (b1s _)),⟨(.agg _ _ _ (b1s _)),trivial⟩⟩) rfl rfl rfl rfl pre0 rfl rfl rfl (k':=12) rfl ?_
  refine ru 1 ?_
  refine b0U kr kr (c':=c+13) rfl ?_
  refine ru 1 ?_
  refine wdc (fun hr1 hc1=>?_) (fun hr1 hc1=>?_)
  ·skip
   have hy:a1r B (fun i=>A.getD i false) (k+1)=bw B k:=(by have h9:=hr1;rw [c2P,Bool.and_eq_true,Bool.and_eq_true] at h9;exact if_pos ⟨h9.2.1,h9.1,h9.2.2⟩)
   refine ru 5 ?_
   refine rvl (rwV (bw B k)) ((by first | rfl | (rw [Nat.zero_add,Int.toNat_natCast];rfl))) ?_
   refine ru 9 ?_
   exact hL1 (k+1) _ _ omd omd (a0b rfl lrf tsa (hsr rfl (hsr rfl (a0g.cons rfl (b8Q (fun j hj=>by rw [hy];exact .refl _)) a0g.nil))))
  have hy:a1r B (fun i=>A.getD i false) (k+1)=a1r B (fun i=>A.getD i false) k:=(by refine if_neg (fun h9=>?_);have h8:=hr1.symm.trans (by rw [c2P,Bool.and_eq_true,Bool.and_eq_true];exact ⟨h9.2.1,h9.1,h9.2.2⟩);cases h8)
  refine ru 8 ?_
  exact hL1 (k+1) _ _ omd omd (a0b rfl lrf tsa (hsr rfl (hsr rfl (a0g.cons rfl (b8Q (fun j hj=>by rw [hy];exact .refl _)) a0g.nil))))
 obtain rfl:k=B.length:=om
 refine ru 2 ?_
 refine a0c ?_
 refine ru 9 ?_
 refine fr1 ok hX rw1 (()) (trivial) ((by rw [a5d hB hf,b3H (b:=fun i=>A.getD i false) R.length fun i hi=>c7d hi,←hB.len];exact .fz _ _ (.agg _ _ _ (b1s _)))) ?_
 exact trivial
@[reducible] noncomputable def a4o (R:List (List Int)) (A:List Bool) (P:List Int) (k:Nat):List Bool:=(List.range k).map fun (i:Nat)=>(a5p R P (b0F R A) (i:Int)).known
theorem c4Z (R:List (List Int)) (A:List Bool) (P:List Int) (k:Nat):a4o R A P (k+1)=a4o R A P k++[(a5p R P (b0F R A) (k:Int)).known]:=by
 unfold a4o;rw [List.range_succ,List.map_append];rfl
@[reducible] def c0w (l:List Bool):Nat→Nat→HV:=fun i _=>boolV (l.getD i false)
@[reducible] def c6H (l:List Bool):HV:=.sl 1 l.length (c0w l)
theorem c0o (c0:Nat) (R:List (List Int)) (A:List Bool) (P:List Int) (hR:b4t R) (hRl:R.length≤30) (hPl:P.length≤1000000):a2y Tryz.prog 12 c0 [tabP R A,a0i P] [] (a4Q (fun (_:Unit) _=>True) (fun _=>c6H (a4o R A P R.length)) (fun _=>[])):=by
 refine a0p Tryz.func12 rfl kr _ _ _ _ rfl 29 rfl rfl (fun X ok hX=>?_)
 refine ru 14 ?_
 refine cll (a6g R A) ?_
 refine ru 4 ?_
 refine a9J 5 9701 1 4 ((c0w [])) rfl dcd rfl (c':=c0+1) rfl ?_
 refine a0l (α:=Nat×Nat) (fun x c=>⟨29,[(0,.v (tabP R A)),(1,.v (a0i P)),(5,.v (.os 9701 x.2 0 (a4o R A P x.1).length)),(11,.v (intV (R.length:Int))),(12,.v (intV (x.1:Int)))],[(9701,⟨x.2,(a4o R A P x.1).length,1,4,0,c0w (a4o R A P x.1)⟩)],c⟩) (fun x=>x.1≤R.length) (fun x=>R.length - x.1) ((0,c0)) (by exact Nat.zero_le _) (a0b rfl lrf tsa hsa) (fun x c hx NhL1 hL1=>?_)
 revert hx hL1;obtain ⟨k,g⟩:=x;intro hx hL1;dsimp only at hx hL1 ⊢
 have hal:(a4o R A P k).length=k:=(by simp [a4o])
 refine ru 6 ?_
 refine wdc (fun hr0 hc0=>?_) (fun hr0 hc0=>?_)
 ·refine ru 15 ?_
  refine a0n 19 (xs:=[_,_,_]) (pre:=[]) (b7a _ R A P (k:Int) hR hRl hPl) ⟨rfl,⟨rfl,⟨rfl,trivial⟩⟩⟩ pre0 rfl rfl (fun u c1 hx1=>?_)
  (try dsimp only)
  refine ru 12 ?_
  refine a0y 25 (a0d (id:=25) (hs:=[_]) ei_27.h omx rfl omx ⟨rfl,rfl,rfl,rfl,trivial⟩) rfl rfl pre0 rfl rfl (c':=c1+1) rfl ?_
  first
  | refine a0y 26 (a0a ei_27.h omy rfl omy omy (a0D rfl omy) omy rfl) rfl rfl (a0h rfl (a0L rfl)) rfl rfl (c':=c1+2) rfl ?_
  | refine a0y 26 (a0a ei_27.h omy rfl omy omy (a1a rfl omy) omy rfl) rfl rfl (a0h rfl (a0L rfl)) rfl rfl (c':=c1+2) rfl ?_
  | refine a0y 26 (a0a ei_27.h omy rfl omy omy (a0Y rfl) omy rfl) rfl rfl (a0h rfl pre0) rfl rfl (c':=c1+2) rfl ?_
  | refine a0y 26 (a0a ei_27.h omy rfl omy omy (a0G 1 (fun _ _=>default) rfl) omy rfl) rfl rfl (a0h rfl pre0) rfl rfl (c':=c1+2) rfl ?_
  refine ru 8 ?_
  exact hL1 ((k+1,c1+1)) _ _ omd omd (a0b rfl lrf (tsr rfl (tsr rfl (a0u.cons rfl (a3A (by simp [a4o])) (tsr rfl (a0u.cons rfl (a0K om) a0u.nil))))) (a0g.cons rfl (by rw [c4Z];exact a0N (enc:=fun x _=>boolV x) (d:=false) rfl (fun i j hi hj=>.refl _) (fun j hj=>.refl _)) a0g.nil))
 obtain rfl:k=R.length:=om
 refine ru 2 ?_
 refine a0c ?_
 refine ru 9 ?_
 refine a1j ok hX a2j.one rfl (a0f rfl) [(9701,_)] rfl (a0h rfl pre0) (()) (trivial) (by rfl) (by rfl) ((.fz _ _ (a2v (l:=a4o R A P R.length) (enc:=fun x _=>boolV x) (d:=false) (List.mem_cons_self ..) rfl rfl lrf (fun i j hi hj=>.imm _)))) ?_
 exact trivial
theorem c2T (P:List Int):HPure Tryz.prog 12 [b4P,a0i P] a1g:=by
 refine a0k Tryz.func12 rfl kr _ _ _ rfl 29 rfl rfl (fun w F=>?_)
 refine ru 14 ?_
 refine cll (a5W) ?_
 refine ru 4 ?_
 refine a0l (α:=Nat) (fun x c=>⟨29,[(5,.v (.imm (.slice none 0 0))),(11,.v (intV 0)),(12,.v (intV (x:Int)))],[],c⟩) (fun x=>x=0) (fun x=>1 - x) (0) (by rfl) (a0b rfl lrf tsa a0g.nil) (fun k c hx NhL1 hL1=>?_)
 (try dsimp only at hx hL1 ⊢)
 refine ru 6 ?_
 refine wdc (fun hr0 hc0=>?_) (fun hr0 hc0=>?_)
 ·skip
  exfalso;subst hx;simp at hr0
 refine ru 2 ?_
 refine a0c ?_
 refine ru 9 ?_
 refine rt1 ?_
 exact .imm _
@[reducible] def twF (a b:Int):Nat→HV:=fun j=>match j with
 | 0=>intV a
 | _=>intV b
theorem b9F {B:List Wy} (hz:∀ v,(bw B v).known=false→bw B v=Wy.zero) (t:Nat):∀ k,a1r B (fun k=>decide ((k:Int)=(t:Int))) k=if t < k then bw B t else Wy.zero
  | 0=>rfl
  | k + 1 => by
    unfold a1r
    rw [b9F hz t k]
    by_cases h:k=t
    · subst h
      rw [if_neg (Nat.lt_irrefl k),if_pos (Nat.lt_succ_self k)]
      cases hk:(bw B k).known with
      | false=>rw [if_neg (fun h=>by cases h.1),hz k hk]
      | true=>exact if_pos ⟨rfl,by simp,rfl⟩
    · rw [if_neg (fun h9=>h (by have:=of_decide_eq_true h9.2.1;omega))]
      by_cases h2:t < k
      · rw [if_pos h2,if_pos omo]
      · rw [if_neg h2,if_neg omo]
theorem b8a {B:List Wy} {acc:Nat→Bool}:∀ k,(∀ i,i < k→acc i=false)→a1r B acc k=Wy.zero
  | 0,_=>rfl
  | k + 1, h => by
    unfold a1r
    rw [if_neg (fun h9=>by rw [h k (Nat.lt_succ_self k)] at h9;cases h9.2.1)]
    exact b8a k fun i hi=>h i (Nat.lt_succ_of_lt hi)
theorem c4S {R:List (List Int)} {P:List Int} {a b:Int} (h:c1I R P a) (hb:a < 0∨(R.length:Int)≤a∨b < 0∨(R.length:Int)≤b):a5p R P (fun k=>decide ((k:Int)=b)) a=Wy.zero:=by
 by_cases hf:0≤a∧a < R.length
 ·obtain ⟨f,rfl⟩:∃ f:Nat,a=(f:Int):=⟨a.toNat,by omega⟩
  rw [a5d (h f rfl omo) omo]
  exact b8a _ fun i hi=>decide_eq_false omo
 ·exact a6b omo
theorem c4Y {R:List (List Int)} {P:List Int} {f t:Nat} {B:List Wy} (h:WaysOk R P f B) (hf:f < R.length) (ht:t < R.length):a5p R P (fun k=>decide ((k:Int)=(t:Int))) (f:Int)=bw B t:=by
 rw [a5d h hf,b9F h.zero t,if_pos ht]
theorem b3G (s:List UInt8) (l:List Mn) (P:List Int) (a b:Int) (hs:s.length≤9223372036854775807):HPure Tryz.prog 4 [strV s,mnsV l,a0i P,.agg 2 (twF a b)] (boolV true):=by
 have hn:=c0J s l hs
 refine a0k Tryz.func4 rfl kr _ _ _ rfl 214 rfl rfl (fun w F=>?_)
 refine ru 9 ?_
 refine a0n 36 (xs:=[_,_,_]) (pre:=[]) (c8c _ P 0) ⟨rfl,⟨rfl,⟨rfl,trivial⟩⟩⟩ pre0 rfl rfl (fun u1 c1 hx1=>?_)
 (try dsimp only)
 refine ru 12 ?_
 refine a0n 42 (xs:=[_,_,_,_]) (pre:=[]) (d0K _ P) ⟨rfl,⟨rfl,⟨rfl,⟨rfl,trivial⟩⟩⟩⟩ pre0 rfl rfl (fun u2 c2 hx2=>?_)
 (try dsimp only)
 refine ru 18 ?_
 first
 | refine stg 50 (fun hb=>a0e (xs:=[_,_]) (c2T P) ⟨rfl,⟨rfl,trivial⟩⟩ ⟨(Fz.eq rfl),⟨(Fz.eq rfl),trivial⟩⟩) rfl rfl rfl rfl rfl ?_
 | refine sth 50 (fun hb=>a0e (xs:=[_,_]) (c2T P) ⟨rfl,⟨rfl,trivial⟩⟩ ⟨(Fz.eq rfl),⟨(Fz.eq rfl),trivial⟩⟩) rfl rfl rfl rfl rfl ?_
 refine ru 5 ?_
 refine wdc (fun hr0 hc0=>?_) (fun hr0 hc0=>?_)
 ·skip
  exfalso;simp [Wy.zero] at hr0
 refine ru 3 ?_
 rcases hn with ⟨z,hx⟩ | ⟨wd,on,β,p,e,S,R,V⟩
 ·refine ru 3 ?_
  refine cll (hx) ?_
  refine ru 30 ?_
  refine wdc (fun hr1 hc1=>?_) (fun hr1 hc1=>?_)
  ·refine ru 2 ?_
   refine cll (a8e) ?_
   refine ru 5 ?_
   refine rt1 ?_
   exact .imm _
  exfalso;simp at hr1
 ·refine ru 3 ?_
  refine cll (V.tab) ?_
  refine ru 30 ?_
  refine wdc (fun hr1 hc1=>?_) (fun hr1 hc1=>?_)
  ·refine ru 2 ?_
   refine cll (a8e) ?_
   refine ru 5 ?_
   refine rt1 ?_
   exact .imm _
  have hin:=c1H V.is;have hrw:=b3P V.is;have hal:=a9m p.empty p.ends S;obtain ⟨hRS,hS1,hS2,hin4⟩:=hin;have hR30:R.length≤30:=(by simp at hr1;omega);have hP:P.length≤40:=(by simp at hr1;omega)
  refine ru 9 ?_
  refine wdc (fun hr2 hc2=>?_) (fun hr2 hc2=>?_)
  ·skip
   exfalso;simp at hr2
  refine ru 6 ?_
  refine a0n 82 (xs:=[_,_]) (pre:=[]) (c0o _ R (accS p.empty p.ends S) P hrw hR30 om) ⟨rfl,⟨rfl,trivial⟩⟩ pre0 rfl rfl (fun u3 c3 hx3=>?_)
  (try dsimp only)
  refine ru 14 ?_
  refine wdc (fun hr3 hc3=>?_) (fun hr3 hc3=>?_)
  ·skip
   exfalso;simp [a4o,hRS] at hr3
  refine ru 9 ?_
  refine a0l (α:=Nat) (fun x c=>⟨214,[(2,.v (a0i P)),(7,.v (.pt 7 0 0 0)),(15,.v (tabP R (accS p.empty p.ends S))),(16,.v (.pt 16 c2 0 0)),(19,.v (c6H (a4o R (accS p.empty p.ends S) P R.length))),(20,.v (intV (x:Int)))],[(7,⟨0,1,2,43,0,fun _=>twF a b⟩),(16,⟨c2,1,3,29,0,fun _=>tdF S R (accS p.empty p.ends S)⟩)],c⟩) (fun x=>x≤S.length) (fun x=>S.length - x) (0) (by exact Nat.zero_le _) (a0b rfl lrf tsa (a0g.cons rfl (.of fun i j hi hj=>by match j,hj with | 0,_=>exact .refl _ | 1,_=>exact .refl _) (a0g.cons rfl (b9f (.refl _) (.refl _) (.refl _)) a0g.nil))) (fun i c hx NhL1 hL1=>?_)
  (try dsimp only at hx hL1 ⊢)
  refine ru 10 ?_
  refine wdc (fun hr4 hc4=>?_) (fun hr4 hc4=>?_)
  ·skip
   have hiR:i < R.length:=om
   refine ru 9 ?_
   refine a0n 100 (xs:=[_,_,_]) (pre:=[]) (b7a _ R (accS p.empty p.ends S) P (i:Int) hrw hR30 om) ⟨rfl,⟨rfl,⟨rfl,trivial⟩⟩⟩ pre0 rfl rfl (fun u4 c4 hWA=>?_)
   (try dsimp only)
   refine ru 14 ?_
   refine a0n 107 (xs:=[_,_,_]) (pre:=[]) (c8C _ S R (accS p.empty p.ends S) P i hrw hRS.symm hal hR30 hiR om) ⟨rfl,⟨rfl,⟨rfl,trivial⟩⟩⟩ pre0 rfl rfl (fun u5 c5 hx5=>?_)
   (try dsimp only)
   refine ru 5 ?_
   have hwl:=b4x (acc:=b0F R (accS p.empty p.ends S)) hWA
   refine ru 8 ?_
   first
   | refine a3C 115 4 112 false _ (fun hb=>a0r ty_3.h rfl omb omb (fun h=>(by first | rfl | cases h))) rfl rfl rfl rfl (a0L rfl) rfl rfl rfl (k':=8) rfl ?_
   | refine a3C 115 4 112 false _ (fun hb=>a0j ty_3.h rfl omb (fun h=>(by first | rfl | cases h))) rfl rfl rfl rfl pre0 rfl rfl rfl (k':=8) rfl ?_
   refine ru 5 ?_
   first
   | refine a3C 121 10 118 false _ (fun hb=>a0r ty_23.h rfl omb omb (fun h=>(by first | rfl | cases h))) rfl rfl rfl rfl (a0L rfl) rfl rfl rfl (k':=14) rfl ?_
   | refine a3C 121 10 118 false _ (fun hb=>a0j ty_23.h rfl omb (fun h=>(by first | rfl | cases h))) rfl rfl rfl rfl pre0 rfl rfl rfl (k':=14) rfl ?_
   refine a3C 122 10 118 false _ (fun hb=>a0e (xs:=[_,_]) (a4Y (a5p R P (b0F R (accS p.empty p.ends S)) (i:Int)).word (a5p R P (b0F R (accS p.empty p.ends S)) (i:Int)).word om om) ⟨rfl,⟨rfl,trivial⟩⟩ ⟨fe,⟨fe,trivial⟩⟩) rfl rfl rfl rfl pre0 rfl rfl rfl (k':=15) rfl ?_
   refine ru 8 ?_
   first
   | refine a3C 131 17 125 false _ (fun hb=>a0r ty_4.h rfl omb omb (fun h=>(by first | rfl | cases h))) rfl rfl rfl rfl (a0L rfl) rfl rfl rfl (k':=24) rfl ?_
   | refine a3C 131 17 125 false _ (fun hb=>a0j ty_4.h rfl omb (fun h=>(by first | rfl | cases h))) rfl rfl rfl rfl pre0 rfl rfl rfl (k':=24) rfl ?_
   refine ru 2 ?_
   refine b0U kr kr (c':=c5+28) rfl ?_
   refine ru 1 ?_
   refine wdc (fun hr5 hc5=>?_) (fun hr5 hc5=>?_)
   ·skip
    exfalso;simp [a4o,hiR] at hr5
   refine ru 8 ?_
   exact hL1 (i+1) _ _ omd omd (a0b rfl lrf tsa hsa)
  have hiS:i=S.length:=om
  refine ru 2 ?_
  refine a0c ?_
  refine ru 5 ?_
  first
  | refine a3d 135 (HOp.val (v':=intV a) (a0r ty_3.h rfl omy omy (fun h=>(by first | rfl | cases h))) (rfl)) rfl rfl (a0L rfl) rfl rfl (k':=2) rfl ?_
  | refine a3d 135 (HOp.val (v':=intV a) (a0j ty_3.h rfl omy (fun h=>(by first | rfl | cases h))) (rfl)) rfl rfl pre0 rfl rfl (k':=2) rfl ?_
  refine ru 1 ?_
  first
  | refine a3d 137 (HOp.val (v':=intV b) (a0r ty_3.h rfl omy omy (fun h=>(by first | rfl | cases h))) (rfl)) rfl rfl (a0L rfl) rfl rfl (k':=4) rfl ?_
  | refine a3d 137 (HOp.val (v':=intV b) (a0j ty_3.h rfl omy (fun h=>(by first | rfl | cases h))) (rfl)) rfl rfl pre0 rfl rfl (k':=4) rfl ?_
  refine ru 10 ?_
  refine a0n 143 (xs:=[_,_,_,_]) (pre:=[]) (d2O _ R (accS p.empty p.ends S) P a b hrw hR30 om) ⟨rfl,⟨rfl,⟨rfl,⟨rfl,trivial⟩⟩⟩⟩ pre0 rfl rfl (fun u6 c6 hx6=>?_)
  (try dsimp only)
  refine ru 14 ?_
  refine a0n 151 (xs:=[_,_,_]) (pre:=[]) (b7a _ R (accS p.empty p.ends S) P a hrw hR30 om) ⟨rfl,⟨rfl,⟨rfl,trivial⟩⟩⟩ pre0 rfl rfl (fun u7 c7 hWB=>?_)
  (try dsimp only)
  refine ru 18 ?_
  refine (a0W 33 ⟨c7,1,3,40,0,fun _=>rwF Wy.zero⟩ rfl (b8Q a8U)).wp ?_;have hbl:=b4x (acc:=fun k=>decide ((k:Int)=b)) hWB
  refine ru 23 ?_
  refine wdc (fun hr6 hc6=>?_) (fun hr6 hc6=>?_)
  ·skip
   obtain ⟨f,rfl⟩:∃ f:Nat,a=(f:Int):=⟨a.toNat,by simp at hr6;omega⟩;obtain ⟨t,rfl⟩:∃ t:Nat,b=(t:Int):=⟨b.toNat,by simp at hr6;omega⟩;have hfR:f < R.length:=(by simp at hr6;omega);have htR:t < R.length:=(by simp at hr6;omega)
   refine ru 4 ?_
   refine a0n 179 (xs:=[_,_,_]) (pre:=[]) (c2k _ S R (accS p.empty p.ends S) P f hrw hRS.symm hR30 hfR om) ⟨rfl,⟨rfl,⟨rfl,trivial⟩⟩⟩ pre0 rfl rfl (fun B c8 hB=>?_)
   (try dsimp only)
   refine ru 1 ?_
   have hBl:=hB.len
   first
   | refine hq_ 181 (a5T el_48.h rfl rfl omy omy omy) rfl rfl pre0 rfl rfl ?_
   | refine hq_ 181 (a4J el_48.h rfl rfl omy omy) rfl rfl (a0L rfl) rfl rfl ?_
   refine ru 1 ?_
   refine rvl (rwV (bw B t)) ((by first | rfl | (rw [Nat.zero_add,Int.toNat_natCast];rfl))) ?_
   refine ru 5 ?_
   have hto:=c4Y hB hfR htR;have hbw:=hB.wl t
   refine ru 15 ?_
   refine wdc (fun hr7 hc7=>?_) (fun hr7 hc7=>?_)
   ·skip
    exfalso;simp at hr7;omega
   refine ru 18 ?_
   first
   | refine stg 205 (fun hb=>a0e (xs:=[_,_]) (a4Y (a5p R P (fun k=>decide ((k:Int)=(t:Int))) (f:Int)).word (bw B t).word omo omo) ⟨rfl,⟨rfl,trivial⟩⟩ ⟨(Fz.eq rfl),⟨(Fz.eq rfl),trivial⟩⟩) rfl rfl rfl rfl rfl ?_
   | refine sth 205 (fun hb=>a0e (xs:=[_,_]) (a4Y (a5p R P (fun k=>decide ((k:Int)=(t:Int))) (f:Int)).word (bw B t).word omo omo) ⟨rfl,⟨rfl,trivial⟩⟩ ⟨(Fz.eq rfl),⟨(Fz.eq rfl),trivial⟩⟩) rfl rfl rfl rfl rfl ?_
   refine ru 2 ?_
   first
   | refine stg 211 (fun hb=>a0e (xs:=[]) (a8e) trivial trivial) rfl rfl rfl rfl rfl ?_
   | refine sth 211 (fun hb=>a0e (xs:=[]) (a8e) trivial trivial) rfl rfl rfl rfl rfl ?_
   refine ru 5 ?_
   refine rt1 ?_
   exact a1H (by rw [hto];simp)
  refine ru 4 ?_
  have hto:=c4S (b:=b) hWB (by simp at hr6;omega)
  refine ru 15 ?_
  refine wdc (fun hr7 hc7=>?_) (fun hr7 hc7=>?_)
  ·skip
   exfalso;rw [a6b (by simp at hr7;omega)] at hr7;simp [Wy.zero] at hr7
  refine ru 18 ?_
  first
  | refine stg 205 (fun hb=>a0e (xs:=[_,_]) (a4Y (a5p R P (fun k=>decide ((k:Int)=b)) a).word Wy.zero.word omo dcd) ⟨rfl,⟨rfl,trivial⟩⟩ ⟨(Fz.eq rfl),⟨(Fz.eq rfl),trivial⟩⟩) rfl rfl rfl rfl rfl ?_
  | refine sth 205 (fun hb=>a0e (xs:=[_,_]) (a4Y (a5p R P (fun k=>decide ((k:Int)=b)) a).word Wy.zero.word omo dcd) ⟨rfl,⟨rfl,trivial⟩⟩ ⟨(Fz.eq rfl),⟨(Fz.eq rfl),trivial⟩⟩) rfl rfl rfl rfl rfl ?_
  refine ru 2 ?_
  first
  | refine stg 211 (fun hb=>a0e (xs:=[]) (a8e) trivial trivial) rfl rfl rfl rfl rfl ?_
  | refine sth 211 (fun hb=>a0e (xs:=[]) (a8e) trivial trivial) rfl rfl rfl rfl rfl ?_
  refine ru 5 ?_
  refine rt1 ?_
  exact a1H (by rw [hto];simp [Wy.zero])
end
section
open Go.ChangeShapes Go.WideShapes Go.ChangeAt Go.RowKit Go.Deep
structure PtI where
 v:Pt
 A:Option Addr
 n:Nat
 c:Nat
def PtI.cells (x:PtI):List Value:=[.int .i64 x.v.kind,.int .i64 x.v.low,.int .i64 x.v.high,.string ⟨x.v.name.toArray⟩,.slice x.A x.n x.c]
def PtI.none:PtI:=⟨default,.none,0,0⟩
theorem PtI.cells_length (x:PtI):x.cells.length=5:=by simp [PtI.cells]
def PtI.inOk (w:World) (x:PtI):Prop:=x.v.kids.length=x.n∧Sl w w.heap.size 1 a4U x.A x.v.kids∧x.n≤x.c∧x.c≤9223372036854775807
section
variable {H:Type} {encH:TypeId×Value→H} {w:World} {base:Nat} {spare:Nat→Bool} {held:Bool}
theorem b9k {P:Program} {t e:TypeId} (ht:P.underlying t=some (.slice e)) {fuel:Nat} {v:Value} {x:DataW H×List MemPlace} (hf:DataW.trod encH P w base spare held fuel t [v]=some x):∃ A n c,v=.slice A n c:=by
 rcases open_slice ht hf with ⟨h0,_⟩ | ⟨a,len,cap,m,k,D,Pl,hcs,_⟩
 ·injection h0 with h0 _;exact ⟨_,_,_,h0⟩
 ·injection hcs with h0 _;exact ⟨_,_,_,h0⟩
end
theorem c3W (x:Int):∀ u∈a4U x,u.oneCell'=true:=by
 intro u hu
 simp only [a4U,List.mem_cons,List.not_mem_nil,or_false] at hu
 subst hu;rfl
theorem b7s {w:World} {B:Nat} {A:Option Addr} {c:Nat} {l:List Int} (h:Sl w B 1 a4U A l) (hc:l.length≤c) (hm:c≤maxLen):Rep w (Env.just (c9K w)) (.slice A l.length c) (a2k l) :=
 c5H 1 omo a4U c3W (fun x _=>intV x) 0 l hc hm h (fun i j _ hj=>by
  match j,hj with
  | 0,_=>exact .imm _)
structure MnI where
 v:Mn
 A:Option Addr
 n:Nat
 c:Nat
def MnI.cells (x:MnI):List Value:=[.string ⟨x.v.name.toArray⟩,.slice x.A x.n x.c]
def MnI.none:MnI:=⟨default,.none,0,0⟩
theorem MnI.cells_length (x:MnI):x.cells.length=2:=by simp [MnI.cells]
def MnI.inOk (w:World) (x:MnI):Prop:=x.v.on.length=x.n∧Sl w w.heap.size 1 a4U x.A x.v.on∧x.n≤x.c∧x.c≤9223372036854775807
theorem c7G (x:MnI):∀ u∈x.cells,u.oneCell'=true:=by
 intro u hu
 simp only [MnI.cells,List.mem_cons,List.not_mem_nil,or_false] at hu
 rcases hu with rfl | rfl <;> rfl
section
variable {H:Type} {encH:TypeId×Value→H} {w:World} {base:Nat} {spare:Nat→Bool} {held:Bool}
set_option maxRecDepth 100000 in
theorem d3e (m:Nat) (cs:List Value) (y:DataW H×List MemPlace) (h:DataW.trod encH Tryz.prog w base spare held m 149 cs=some y):∃ t:MnI,cs=t.cells∧t.inOk w:=by
  obtain ⟨xs,k,_,_,hlen,hxl,hx⟩:=DataW.trod_struct Tryz.underlying149 h
  have hC:Tryz.prog.cellsOf 149=2:=by kernel_rfl
  have hS:Tryz.prog.cellsOf 9=1:=by kernel_rfl
  have hK:Tryz.prog.cellsOf 23=1:=by kernel_rfl
  rw [hC] at hlen
  match cs,hlen,xs,hxl with
  | [c3, c4], _, [x3, x4], _ =>
    have f3:DataW.trod encH Tryz.prog w base spare held k 9 (([c3,c4].drop 0).take (Tryz.prog.cellsOf 9))=[x3,x4][0]?:=hx 0 _ rfl
    have f4:DataW.trod encH Tryz.prog w base spare held k 23 (([c3,c4].drop 1).take (Tryz.prog.cellsOf 23))=[x3,x4][1]?:=hx 1 _ rfl
    rw [hS] at f3
    rw [hK] at f4
    obtain ⟨b3,h3,_,_⟩:=DataW.trod_string Tryz.underlying9 f3
    simp at h3
    subst h3
    simp only [List.drop_succ_cons,List.drop_zero,List.take_succ_cons,List.take_zero] at f4
    obtain ⟨A,n,c,rfl⟩:=b9k Tryz.underlying23 f4
    obtain ⟨l,e,s,o,m',_⟩:=b6b Tryz.underlying23 1 krf omo a4U (fun a=>by simp [a4U]) b8B (c5x Tryz.underlying3) f4
    exact ⟨⟨⟨b3.data.toList,l⟩,A,n,c⟩,rfl,e,s,o,m'⟩
end
theorem c7o {w:World} {B:Nat} {A:Option Addr} {c:Nat} {l:List MnI} (h:Sl w B 2 MnI.cells A l) (hc:l.length≤c) (hm:c≤maxLen) (hok:∀ x∈l,x.inOk w):Rep w (Env.just (c9K w)) (.slice A l.length c) (mnsV (l.map (·.v))):=by
 have key:=c5H (w:=w) 2 omo MnI.cells c7G (fun x=>mnF x.v) MnI.none l hc hm h (fun i j hi hj=>by
  have hg:l.getD i MnI.none=l[i]:=by rw [List.getD_eq_getElem?_getD,List.getElem?_eq_getElem hi];rfl
  rw [hg]
  obtain ⟨e,s,o,m⟩:=hok _ (List.getElem_mem hi)
  generalize l[i]=x at e s o m
  obtain ⟨v,A',n',c'⟩:=x
  simp only at e s o m
  subst e
  match j,hj with
  | 0,_=>exact .imm _
  | 1,_=>exact b7s s o (by unfold maxLen;omega))
 have e:mnsV (l.map (·.v))=.sl 2 l.length (fun i=>mnF (l.getD i MnI.none).v):=by
  show HV.sl 2 (l.map (·.v)).length (fun i=>mnF ((l.map (·.v)).getD i default))=_
  rw [List.length_map]
  congr 1
  funext i
  show mnF ((l.map (·.v)).getD i default)=_
  congr 1
  rw [List.getD_eq_getElem?_getD,List.getD_eq_getElem?_getD,List.getElem?_map]
  cases l[i]? <;> rfl
 rw [e];exact key
end
end Go.Proofs.YtkeakpcieokhhaaGreatDoor
