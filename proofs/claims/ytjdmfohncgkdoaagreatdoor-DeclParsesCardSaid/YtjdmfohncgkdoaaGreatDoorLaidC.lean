/-
  Whether two say the same, by the document; the program's lines as the document's.
-/
import Derived.Test.YtjdmfohncgkdoaaGreatDoorDc12
import Derived.Test.YtjdmfohncgkdoaaGreatDoorLx11
import Derived.Test.YtjdmfohncgkdoaaGreatDoorHc
import Derived.Test.YtjdmfohncgkdoaaGreatDoorChecked
import Derived.ProofKit
import Derived.OpenShut
import Derived.ChangeOld
import Derived.Deep.Slices
import Derived.Test.YtjdmfohncgkdoaaGreatDoorRows
import Derived.LaidLaws
import Derived.LaidMore
import Derived.LaidSub
import Derived.HandedShaped
import Derived.Shelf.Vars
import Derived.Stop.Joined
namespace Go.Proofs.YtjdmfohncgkdoaaGreatDoor
set_option linter.unusedSimpArgs false
set_option linter.unusedVariables false
set_option maxRecDepth 100000
set_option maxHeartbeats 4000000
open Go.RowKit
def c4k (d:Dc):Prop:=d.nodes.length≤1000000∧d.marks.length≤1000000∧(∀ k,(d.nodes.getD k default).groups.length≤1000000∧(d.nodes.getD k default).marks.length≤1000000)∧∀ k,(d.marks.getD k default).bars.length≤1000000
@[reducible] def rcO (g:Nat) (d:Dc):HObj:=⟨g,1,2,33,0,fun _=>dcF d⟩
theorem c1c (a b:Dc) (hs:c4k a):a0t Tryz.prog 9 [dcV a,dcV b] (a0x (decide (a=b))):=by
 obtain ⟨hs1,hs2,hs3,hs4⟩:=hs
 refine a0n Tryz.func9 rfl (by kernel_rfl) _ _ _ rfl 151 rfl rfl (fun w F=>?_)
 refine ru 28 ?_
 refine wdc (fun hr0 hc0=>?_) (fun hr0 hc0=>?_)
 ·skip
  have hne:a≠b:=(by rintro rfl;simp at hr0)
  refine ru 7 ?_
  refine rt1 ?_
  exact a1m (by rw [decide_eq_false hne])
 have hl0:a.nodes.length=b.nodes.length∧a.marks.length=b.marks.length:=(by have h9:=hr0;simp at h9;omega)
 refine ru 9 ?_
 refine a0o (α:=Nat) (fun x c=>⟨151,[(2,.v (.pt 2 0 0 0)),(3,.v (.pt 3 1 0 0)),(5,.v (a0g x))],[(2,rcO 0 a),(3,rcO 1 b)],c⟩) (fun x=>x≤a.nodes.length∧∀ i,i < x→a.nodes.getD i default=b.nodes.getD i default) (fun x=>a.nodes.length - x) (0) (by exact ⟨Nat.zero_le _,fun i h=>absurd h (Nat.not_lt_zero _)⟩) (a0c rfl (Nat.le_refl _) (tsr rfl (tsr rfl (tsr rfl a0E.nil))) (hsr rfl (hsr rfl a0j.nil))) (fun k c hx NhL1 hL1=>?_)
 (try dsimp only at hx hL1 ⊢)
 obtain ⟨hk,hE⟩:=hx
 refine ru 10 ?_
 refine wdc (fun hr1 hc1=>?_) (fun hr1 hc1=>?_)
 ·skip
  have hg1:=hs3 k;obtain ⟨x_,hx_⟩:∃ x_,a.nodes.getD k default=x_:=⟨_,rfl⟩;obtain ⟨y_,hy_⟩:∃ y_,b.nodes.getD k default=y_:=⟨_,rfl⟩;rw [hx_] at hg1
  refine ru 11 ?_
  refine rvl (.agg 9 (a6F x_)) ((by rw [←hx_];first | done | rfl)) ?_
  refine ru 11 ?_
  refine rvl (.agg 9 (a6F y_)) ((by rw [←hy_];first | done | rfl)) ?_
  refine ru 58 ?_
  first
  | refine stg 91 (fun hb=>a0l (xs:=[_,_]) (a6q x_.groups y_.groups hg1.1) ⟨rfl,⟨rfl,trivial⟩⟩ ⟨(Fz.eq rfl),⟨(Fz.eq rfl),trivial⟩⟩) rfl rfl rfl rfl rfl ?_
  | refine sth 91 (fun hb=>a0l (xs:=[_,_]) (a6q x_.groups y_.groups hg1.1) ⟨rfl,⟨rfl,trivial⟩⟩ ⟨(Fz.eq rfl),⟨(Fz.eq rfl),trivial⟩⟩) rfl rfl rfl rfl rfl ?_
  refine ru 7 ?_
  first
  | refine stg 99 (fun hb=>a0l (xs:=[_,_]) (a6q x_.marks y_.marks hg1.2) ⟨rfl,⟨rfl,trivial⟩⟩ ⟨(Fz.eq rfl),⟨(Fz.eq rfl),trivial⟩⟩) rfl rfl rfl rfl rfl ?_
  | refine sth 99 (fun hb=>a0l (xs:=[_,_]) (a6q x_.marks y_.marks hg1.2) ⟨rfl,⟨rfl,trivial⟩⟩ ⟨(Fz.eq rfl),⟨(Fz.eq rfl),trivial⟩⟩) rfl rfl rfl rfl rfl ?_
  refine ru 4 ?_
  refine wdc (fun hr2 hc2=>?_) (fun hr2 hc2=>?_)
  ·skip
   have hne:a≠b:=(by rintro rfl;have h9:=hr2;obtain rfl:x_=y_:=hx_.symm.trans hy_;simp at h9)
   refine ru 8 ?_
   refine a0f ?_
   refine ru 2 ?_
   refine rt1 ?_
   exact a1m (by rw [decide_eq_false hne])
  have hxy:x_=y_:=(by have h9:=hr2;simp at h9;obtain ⟨b1,b2,b3,b4,b5,b6,b7,b8,b9⟩:=x_;obtain ⟨d1,d2,d3,d4,d5,d6,d7,d8,d9⟩:=y_;simp at h9;simp [h9])
  refine ru 8 ?_
  exact hL1 (k+1) _ _ (by (try dsimp only);exact ⟨by omega,fun i hi=>by by_cases e:i=k;(subst e;rw [hx_,hy_];exact hxy);exact hE i (by omega)⟩) (by (try dsimp only);omega) (a0c rfl (Nat.le_refl _) (tsr rfl (tsr rfl (tsr rfl a0E.nil))) (hsr rfl (hsr rfl a0j.nil)))
 have hN:a.nodes=b.nodes:=a6T (d:=default) hl0.1 (fun i hi=>hE i (by omega))
 refine ru 2 ?_
 refine a0d ?_
 refine ru 9 ?_
 refine a0o (α:=Nat) (fun x c=>⟨151,[(2,.v (.pt 2 0 0 0)),(3,.v (.pt 3 1 0 0)),(8,.v (a0g x))],[(2,rcO 0 a),(3,rcO 1 b)],c⟩) (fun x=>x≤a.marks.length∧∀ i,i < x→a.marks.getD i default=b.marks.getD i default) (fun x=>a.marks.length - x) (0) (by exact ⟨Nat.zero_le _,fun i h=>absurd h (Nat.not_lt_zero _)⟩) (a0c rfl (Nat.le_refl _) (tsr rfl (tsr rfl (tsr rfl a0E.nil))) (hsr rfl (hsr rfl a0j.nil))) (fun k c hx NhL2 hL2=>?_)
 (try dsimp only at hx hL2 ⊢)
 obtain ⟨hk,hE⟩:=hx
 refine ru 10 ?_
 refine wdc (fun hr3 hc3=>?_) (fun hr3 hc3=>?_)
 ·skip
  have hg1:=hs4 k;obtain ⟨x_,hx_⟩:∃ x_,a.marks.getD k default=x_:=⟨_,rfl⟩;obtain ⟨y_,hy_⟩:∃ y_,b.marks.getD k default=y_:=⟨_,rfl⟩;rw [hx_] at hg1
  refine ru 11 ?_
  refine rvl (.agg 4 (a6n x_)) ((by rw [←hx_];first | done | rfl)) ?_
  refine ru 11 ?_
  refine rvl (.agg 4 (a6n y_)) ((by rw [←hy_];first | done | rfl)) ?_
  refine ru 30 ?_
  first
  | refine stg 143 (fun hb=>a0l (xs:=[_,_]) (a6q x_.bars y_.bars hg1) ⟨rfl,⟨rfl,trivial⟩⟩ ⟨(Fz.eq rfl),⟨(Fz.eq rfl),trivial⟩⟩) rfl rfl rfl rfl rfl ?_
  | refine sth 143 (fun hb=>a0l (xs:=[_,_]) (a6q x_.bars y_.bars hg1) ⟨rfl,⟨rfl,trivial⟩⟩ ⟨(Fz.eq rfl),⟨(Fz.eq rfl),trivial⟩⟩) rfl rfl rfl rfl rfl ?_
  refine ru 4 ?_
  refine wdc (fun hr4 hc4=>?_) (fun hr4 hc4=>?_)
  ·skip
   have hne:a≠b:=(by rintro rfl;have h9:=hr4;obtain rfl:x_=y_:=hx_.symm.trans hy_;simp at h9)
   refine ru 8 ?_
   refine a0f ?_
   refine ru 2 ?_
   refine rt1 ?_
   exact a1m (by rw [decide_eq_false hne])
  have hxy:x_=y_:=(by have h9:=hr4;simp at h9;obtain ⟨b1,b2,b3,b4⟩:=x_;obtain ⟨d1,d2,d3,d4⟩:=y_;simp at h9;simp [h9])
  refine ru 8 ?_
  exact hL2 (k+1) _ _ (by (try dsimp only);exact ⟨by omega,fun i hi=>by by_cases e:i=k;(subst e;rw [hx_,hy_];exact hxy);exact hE i (by omega)⟩) (by (try dsimp only);omega) (a0c rfl (Nat.le_refl _) (tsr rfl (tsr rfl (tsr rfl a0E.nil))) (hsr rfl (hsr rfl a0j.nil)))
 have hM:a.marks=b.marks:=a6T (d:=default) hl0.2 (fun i hi=>hE i (by omega))
 refine ru 2 ?_
 refine a0d ?_
 refine ru 8 ?_
 refine rt1 ?_
 exact a1m (by rw [decide_eq_true (show a=b by obtain ⟨b1,b2⟩:=a;obtain ⟨d1,d2⟩:=b;simp at hN hM;simp [hN,hM])])
theorem b4G {l:List Nd} {k:Nat} (h:k < l.length):l.take (k+1)=l.take k++[l.getD k default]:=by
 rw [List.take_succ_eq_append_getElem h,List.getD_eq_getElem?_getD,List.getElem?_eq_getElem h];rfl
theorem b4l {l:List Mk} {k:Nat} (h:k < l.length):l.take (k+1)=l.take k++[l.getD k default]:=by
 rw [List.take_succ_eq_append_getElem h,List.getD_eq_getElem?_getD,List.getElem?_eq_getElem h];rfl
theorem c0H (d:Dc) (h1:d.nodes.length≤1000000) (h2:d.marks.length≤1000000):a0t Tryz.prog 10 [dcV d] (dcV d):=by
 refine a0n Tryz.func10 rfl kr _ _ _ rfl 42 rfl rfl (fun w F=>?_)
 refine ru 20 ?_
 refine (a1l 3 0 8101 9 54 (b4f []) (fun _ j=>match j with | 0=>.os 8101 4 0 0 | _=>.imm (.slice none 0 0)) rfl rfl (fun j hj=>by match j,hj with | 0,_=>exact .inl ⟨rfl,rfl⟩ | 1,_=>exact .inr rfl) (by decide) (by decide) (c':=5) rfl).wp ?_;refine (a1l 3 1 8102 4 57 (b4F []) (fun _=>dcG 4 0 5 0) rfl rfl (fun j hj=>by match j,hj with | 0,_=>exact .inr rfl | 1,_=>exact .inl ⟨rfl,rfl⟩) (by decide) (by decide) (c':=6) rfl).wp ?_
 refine a0o (α:=Nat×List Nd×Nat) (fun x c=>⟨42,[(1,.v (.pt 1 0 0 0)),(2,.v (.pt 2 1 0 0)),(3,.v (.pt 3 2 0 0)),(4,.v (a0g (x.1:Int)))],[(1,⟨0,1,2,26,0,fun _=>dcF d⟩),(2,rzO 1),(3,c2F 2 x.2.2 x.2.1.length 5 0),(8101,b8z x.2.2 x.2.1),(8102,b7I 5 [])],c⟩) (fun x=>x.1≤d.nodes.length∧x.2.1=d.nodes.take x.1) (fun x=>d.nodes.length - x.1) ((0,[],4)) (by exact ⟨Nat.zero_le _,rfl⟩) (a0c rfl (Nat.le_refl _) tsa (a0j.cons rfl (a2J (.refl _) (.refl _)) (a0j.cons rfl (a2J (.refl _) (.refl _)) hsa))) (fun x c hx NhL1 hL1=>?_)
 revert hx hL1;obtain ⟨k,o1,g1⟩:=x;intro hx hL1;dsimp only at hx hL1 ⊢
 obtain ⟨hk,ho⟩:=hx
 refine ru 10 ?_
 refine wdc (fun hr0 hc0=>?_) (fun hr0 hc0=>?_)
 ·skip
  have hT:=b4G (l:=d.nodes) (k:=k) om;have hol:o1.length≤1000000:=(by rw [ho,List.length_take];omega)
  refine ru 11 ?_
  first
  | refine a3y 20 (HOp.val (v':=.agg 9 (a6F (d.nodes.getD k default))) (a0H ty_46.h rfl (by first | exact Nat.le_of_ble_eq_true rfl | omega | (dsimp only;omega) | (simp <;> omega)) (by first | exact Nat.le_of_ble_eq_true rfl | omega | (dsimp only;omega) | (simp <;> omega)) (fun h=>(by first | rfl | cases h))) (rfl)) rfl rfl (a0B rfl) rfl rfl (k':=7) rfl ?_
  | refine a3y 20 (HOp.val (v':=.agg 9 (a6F (d.nodes.getD k default))) (a0q ty_46.h rfl (by first | exact Nat.le_of_ble_eq_true rfl | omega | (dsimp only;omega) | (simp <;> omega)) (fun h=>(by first | rfl | cases h))) (rfl)) rfl rfl a0e rfl rfl (k':=7) rfl ?_
  refine a2b 21 (a0b (id:=21) (hs:=[_]) ei_30.h omx rfl omx ⟨rfl,rfl,rfl,rfl,trivial⟩) rfl rfl a0e rfl rfl (k':=8) rfl ?_
  first
  | refine a2b 22 (a0a ei_30.h (by first | exact Nat.le_of_ble_eq_true rfl | omega | (dsimp only;omega) | (simp <;> omega)) rfl (by first | exact Nat.le_of_ble_eq_true rfl | omega | (dsimp only;omega) | (simp <;> omega)) (by first | exact Nat.le_of_ble_eq_true rfl | omega | (dsimp only;omega) | (simp <;> omega)) (a0s rfl (by first | exact Nat.le_of_ble_eq_true rfl | omega | (dsimp only;omega) | (simp <;> omega))) (by first | exact Nat.le_of_ble_eq_true rfl | omega | (dsimp only;omega) | (simp <;> omega)) rfl) rfl rfl (a0h rfl (a0B rfl)) rfl rfl (k':=9) rfl ?_
  | refine a2b 22 (a0a ei_30.h (by first | exact Nat.le_of_ble_eq_true rfl | omega | (dsimp only;omega) | (simp <;> omega)) rfl (by first | exact Nat.le_of_ble_eq_true rfl | omega | (dsimp only;omega) | (simp <;> omega)) (by first | exact Nat.le_of_ble_eq_true rfl | omega | (dsimp only;omega) | (simp <;> omega)) (a0D rfl (by first | exact Nat.le_of_ble_eq_true rfl | omega | (dsimp only;omega) | (simp <;> omega))) (by first | exact Nat.le_of_ble_eq_true rfl | omega | (dsimp only;omega) | (simp <;> omega)) rfl) rfl rfl (a0h rfl (a0B rfl)) rfl rfl (k':=9) rfl ?_
  | refine a2b 22 (a0a ei_30.h (by first | exact Nat.le_of_ble_eq_true rfl | omega | (dsimp only;omega) | (simp <;> omega)) rfl (by first | exact Nat.le_of_ble_eq_true rfl | omega | (dsimp only;omega) | (simp <;> omega)) (by first | exact Nat.le_of_ble_eq_true rfl | omega | (dsimp only;omega) | (simp <;> omega)) (a0C rfl) (by first | exact Nat.le_of_ble_eq_true rfl | omega | (dsimp only;omega) | (simp <;> omega)) rfl) rfl rfl (a0h rfl a0e) rfl rfl (k':=9) rfl ?_
  | refine a2b 22 (a0a ei_30.h (by first | exact Nat.le_of_ble_eq_true rfl | omega | (dsimp only;omega) | (simp <;> omega)) rfl (by first | exact Nat.le_of_ble_eq_true rfl | omega | (dsimp only;omega) | (simp <;> omega)) (by first | exact Nat.le_of_ble_eq_true rfl | omega | (dsimp only;omega) | (simp <;> omega)) (a0u 9 (fun _ _=>default) rfl) (by first | exact Nat.le_of_ble_eq_true rfl | omega | (dsimp only;omega) | (simp <;> omega)) rfl) rfl rfl (a0h rfl a0e) rfl rfl (k':=9) rfl ?_
  first
  | refine a3y 23 (a4v fd_33_0.h rfl) rfl rfl a0e rfl rfl (k':=10) rfl ?_
  | refine a3y 23 (a1U fd_33_0.h rfl (by first | exact Nat.le_of_ble_eq_true rfl | omega | (dsimp only;omega) | (simp <;> omega))) rfl rfl a0e rfl rfl (k':=10) rfl ?_
  refine ru 9 ?_
  exact hL1 ((k+1,o1++[d.nodes.getD k default],_)) _ _ (by (try dsimp only);exact ⟨by omega,by rw [hT,ho]⟩) (by (try dsimp only);omega) (a0c rfl (Nat.le_refl _) tsa (hsr rfl (hsr rfl (a0j.cons rfl (a2J (a1G (by simp)) (.refl _)) (a0j.cons rfl (a0w (enc:=a6F) (d:=default) rfl (fun i j hi hj=>.refl _) (by exact q9 (.refl _) (.refl _) (.refl _) (.refl _) (.refl _) (.refl _) (.refl _) (.refl _) (.refl _))) hsa)))))
 obtain rfl:o1=d.nodes:=(by rw [ho,show k=d.nodes.length by omega,List.take_length])
 refine ru 2 ?_
 refine a0d ?_
 refine ru 9 ?_
 refine a0o (α:=Nat×List Mk×Nat) (fun x c=>⟨42,[(1,.v (.pt 1 0 0 0)),(2,.v (.pt 2 1 0 0)),(3,.v (.pt 3 2 0 0)),(5,.v (a0g (x.1:Int)))],[(1,⟨0,1,2,26,0,fun _=>dcF d⟩),(2,rzO 1),(3,c2F 2 g1 d.nodes.length x.2.2 x.2.1.length),(8101,b8z g1 d.nodes),(8102,b7I x.2.2 x.2.1)],c⟩) (fun x=>x.1≤d.marks.length∧x.2.1=d.marks.take x.1) (fun x=>d.marks.length - x.1) ((0,[],5)) (by exact ⟨Nat.zero_le _,rfl⟩) (a0c rfl (Nat.le_refl _) tsa hsa) (fun x c hx NhL2 hL2=>?_)
 revert hx hL2;obtain ⟨k,o2,g2⟩:=x;intro hx hL2;dsimp only at hx hL2 ⊢
 obtain ⟨hk2,ho2⟩:=hx
 refine ru 10 ?_
 refine wdc (fun hr1 hc1=>?_) (fun hr1 hc1=>?_)
 ·skip
  have hT:=b4l (l:=d.marks) (k:=k) om;have hol:o2.length≤1000000:=(by rw [ho2,List.length_take];omega)
  refine ru 11 ?_
  first
  | refine a3y 37 (HOp.val (v':=.agg 4 (a6n (d.marks.getD k default))) (a0H ty_58.h rfl (by first | exact Nat.le_of_ble_eq_true rfl | omega | (dsimp only;omega) | (simp <;> omega)) (by first | exact Nat.le_of_ble_eq_true rfl | omega | (dsimp only;omega) | (simp <;> omega)) (fun h=>(by first | rfl | cases h))) (rfl)) rfl rfl (a0B rfl) rfl rfl (k':=7) rfl ?_
  | refine a3y 37 (HOp.val (v':=.agg 4 (a6n (d.marks.getD k default))) (a0q ty_58.h rfl (by first | exact Nat.le_of_ble_eq_true rfl | omega | (dsimp only;omega) | (simp <;> omega)) (fun h=>(by first | rfl | cases h))) (rfl)) rfl rfl a0e rfl rfl (k':=7) rfl ?_
  refine a2b 38 (a0b (id:=38) (hs:=[_]) ei_31.h omx rfl omx ⟨rfl,rfl,rfl,rfl,trivial⟩) rfl rfl a0e rfl rfl (k':=8) rfl ?_
  first
  | refine a2b 39 (a0a ei_31.h (by first | exact Nat.le_of_ble_eq_true rfl | omega | (dsimp only;omega) | (simp <;> omega)) rfl (by first | exact Nat.le_of_ble_eq_true rfl | omega | (dsimp only;omega) | (simp <;> omega)) (by first | exact Nat.le_of_ble_eq_true rfl | omega | (dsimp only;omega) | (simp <;> omega)) (a0s rfl (by first | exact Nat.le_of_ble_eq_true rfl | omega | (dsimp only;omega) | (simp <;> omega))) (by first | exact Nat.le_of_ble_eq_true rfl | omega | (dsimp only;omega) | (simp <;> omega)) rfl) rfl rfl (a0h rfl (a0B rfl)) rfl rfl (k':=9) rfl ?_
  | refine a2b 39 (a0a ei_31.h (by first | exact Nat.le_of_ble_eq_true rfl | omega | (dsimp only;omega) | (simp <;> omega)) rfl (by first | exact Nat.le_of_ble_eq_true rfl | omega | (dsimp only;omega) | (simp <;> omega)) (by first | exact Nat.le_of_ble_eq_true rfl | omega | (dsimp only;omega) | (simp <;> omega)) (a0D rfl (by first | exact Nat.le_of_ble_eq_true rfl | omega | (dsimp only;omega) | (simp <;> omega))) (by first | exact Nat.le_of_ble_eq_true rfl | omega | (dsimp only;omega) | (simp <;> omega)) rfl) rfl rfl (a0h rfl (a0B rfl)) rfl rfl (k':=9) rfl ?_
  | refine a2b 39 (a0a ei_31.h (by first | exact Nat.le_of_ble_eq_true rfl | omega | (dsimp only;omega) | (simp <;> omega)) rfl (by first | exact Nat.le_of_ble_eq_true rfl | omega | (dsimp only;omega) | (simp <;> omega)) (by first | exact Nat.le_of_ble_eq_true rfl | omega | (dsimp only;omega) | (simp <;> omega)) (a0C rfl) (by first | exact Nat.le_of_ble_eq_true rfl | omega | (dsimp only;omega) | (simp <;> omega)) rfl) rfl rfl (a0h rfl a0e) rfl rfl (k':=9) rfl ?_
  | refine a2b 39 (a0a ei_31.h (by first | exact Nat.le_of_ble_eq_true rfl | omega | (dsimp only;omega) | (simp <;> omega)) rfl (by first | exact Nat.le_of_ble_eq_true rfl | omega | (dsimp only;omega) | (simp <;> omega)) (by first | exact Nat.le_of_ble_eq_true rfl | omega | (dsimp only;omega) | (simp <;> omega)) (a0u 4 (fun _ _=>default) rfl) (by first | exact Nat.le_of_ble_eq_true rfl | omega | (dsimp only;omega) | (simp <;> omega)) rfl) rfl rfl (a0h rfl a0e) rfl rfl (k':=9) rfl ?_
  refine ru 10 ?_
  exact hL2 ((k+1,o2++[d.marks.getD k default],_)) _ _ (by (try dsimp only);exact ⟨by omega,by rw [hT,ho2]⟩) (by (try dsimp only);omega) (a0c rfl (Nat.le_refl _) tsa (hsr rfl (hsr rfl (a0j.cons rfl (a2J (.refl _) (a1G (by simp))) (hsr rfl (a0j.cons rfl (a0w (enc:=a6n) (d:=default) rfl (fun i j hi hj=>.refl _) (by exact qm4 (.refl _) (.refl _) (.refl _) (.refl _))) a0j.nil))))))
 obtain rfl:o2=d.marks:=(by rw [ho2,show k=d.marks.length by omega,List.take_length])
 refine ru 2 ?_
 refine a0d ?_
 refine ru 9 ?_
 refine a7G rfl (a0N rfl rfl ty_33.h rqc rfl rfl) [(8101,_),(8102,_)] rfl (a0h rfl (a0h rfl a0e)) ?_
 exact .agg _ _ _ (fun j hj=>by match j,hj with | 0,_=>exact a1z (l:=d.nodes) (enc:=a6F) (d:=default) (List.mem_cons_self ..) rfl rfl (Nat.le_refl _) (fun i j hi hj=>a4e _ j hj) | 1,_=>exact a1z (l:=d.marks) (enc:=a6n) (d:=default) (List.mem_cons_of_mem _ (List.mem_cons_self ..)) rfl rfl (Nat.le_refl _) (fun i j hi hj=>a4q _ j hj))
end Go.Proofs.YtjdmfohncgkdoaaGreatDoor
namespace Go.Proofs.YtjdmfohncgkdoaaGreatDoor
set_option linter.unusedSimpArgs false
set_option linter.unusedVariables false
set_option maxRecDepth 100000
theorem b0w:∀ {l out r:List Bs},a7T l out=some r→r.length≤out.length+l.length
  | [], out, r, h => by
    have h:some out=some r:=h
    injection h with h;subst h;exact Nat.le_refl _
  | w :: l, out, r, h => by
    have h:(if a2P w=true∧w∉out then a7T l (out++[w]) else none)=some r:=h
    split at h
    · have:=b0w h
      rw [List.length_append,List.length_singleton] at this
      rw [List.length_cons];omega
    · cases h
theorem b0j (s:Bs):((a0T s).getD (false,[])).2.length≤s.length+1:=by
  unfold a0T
  split
  · exact Nat.zero_le _
  · cases h : b2l s with
    | none=>exact Nat.zero_le _
    | some r =>
      have h1:=b0w (show a7T (a0i 44 s) []=some r from h)
      have h2:=a2E 44 s
      show r.length≤_
      simp only [List.length_nil] at h1;omega
def c1K (B:Nat) (n:Nd):Prop:=n.groups.length≤4∧n.marks.length≤B+1
def c3n (B:Nat) (m:Mk):Prop:=m.bars.length≤B+1
def dSm (B:Nat) (d:Dc):Prop:=(d.nodes.length≤24∧d.marks.length≤8)∧(∀ n∈d.nodes,c1K B n)∧∀ m∈d.marks,c3n B m
theorem b7C {B:Nat} {i:Int} {n:Nd} {v:Bs} (h:c1K B n) (hv:v.length≤B):c1K B (a1y i n v).1:=by
 unfold a1y
 split
 ·split
  ·rename_i h1 h2
   exact ⟨by show (n.groups++[v]).length≤4;rw [List.length_append,List.length_singleton];omega,h.2⟩
  ·exact h
 ·split
  ·exact h
  ·split
   ·exact h
   ·split
    ·exact h
    ·exact ⟨h.1,Nat.le_trans (b0j v) (Nat.succ_le_succ hv)⟩
theorem b3D {B:Nat}:∀ {r met:List Bs} {n:Nd},(∀ w∈r,w.length≤B)→c1K B n→c1K B (a8a r met n).1
  | [],_,_,_,h=>h
  | w :: r, met, n, hw, h => by
    by_cases h1:w=[58]
    · subst h1;rw [a4r];exact h
    · obtain ⟨⟨W,V,H⟩,hc⟩:∃ q,a3R 61 w=q:=⟨_,rfl⟩
      by_cases h2:a2y W H < 0∨(W∈met∧W≠a1S)∨(a1y (a2y W H) n V).2=false
      · rw [a1J h1 hc h2];exact ⟨Nat.zero_le _,Nat.zero_le _⟩
      · rw [a1Y h1 hc h2]
        have hl:=a4h 61 w
        rw [hc] at hl
        exact b3D (fun x hx=>hw x (List.mem_cons_of_mem _ hx)) (b7C h (Nat.le_trans hl (hw w (List.mem_cons_self ..))))
theorem b3x {B:Nat}:∀ {r met:List Bs} {m:Mk},(∀ w∈r,w.length≤B)→c3n B m→c3n B (a9C r met m).1
  | [],_,_,_,h=>h
  | w :: r, met, m, hw, h => by
    unfold a9C
    split
    · exact Nat.zero_le _
    · refine b3x (fun x hx=>hw x (List.mem_cons_of_mem _ hx)) ?_
      have hl:=a4h 61 w
      have hl:=Nat.le_trans hl (hw w (List.mem_cons_self ..))
      unfold a2W
      split
      · exact h
      · split
        · exact Nat.le_trans (b0j _) (Nat.succ_le_succ hl)
        · exact h
theorem c0A {B:Nat} {d:Dc} {l:List Bs} (h:dSm B d) (hw:∀ w∈l,w.length≤B):dSm B (a1I d l).1:=by
 refine ⟨a8W h.1,?_⟩
 have hd:∀ w∈l.drop 2,w.length≤B:=fun w hx=>hw w (List.drop_subset _ _ hx)
 have hN:c1K B (a2Y l).1:=b3D hd ⟨Nat.zero_le _,Nat.zero_le _⟩
 have hM:c3n B (a4G l).1:=b3x hd (Nat.zero_le _)
 have h:=h.2
 unfold a1I
 split
 ·exact h
 ·split
  ·split
   ·exact h
   ·split
    ·exact h
    ·split
     ·exact h
     ·exact ⟨fun n hn=>by rcases List.mem_append.1 hn with hn | hn;exact h.1 n hn;rw [List.mem_singleton.1 hn];exact hN,h.2⟩
  ·split
   ·split
    ·exact h
    ·split
     ·exact h
     ·split
      ·exact h
      ·exact ⟨h.1,fun n hn=>by rcases List.mem_append.1 hn with hn | hn;exact h.2 n hn;rw [List.mem_singleton.1 hn];exact hM⟩
   ·exact h
theorem a6U (B:Nat):dSm B Dc.zero:=⟨⟨Nat.zero_le _,Nat.zero_le _⟩,(fun n h=>by cases h),fun n h=>by cases h⟩
theorem a9B {B:Nat}:∀ {r:List Bs} {i:Nat} {d:Dc},(∀ w∈r,w.length≤B)→dSm B d→dSm B (a3m r i d).1
  | [],_,_,_,h=>h
  | s :: r, i, d, hw, h => by
    have hr:∀ w∈r,w.length≤B:=fun w hx=>hw w (List.mem_cons_of_mem _ hx)
    unfold a3m
    split
    · exact a6U B
    · rename_i l hl
      have hs:=hw s (List.mem_cons_self ..)
      split
      · exact a9B hr h
      · split
        · exact a9B hr (c0A h fun w hx=>Nat.le_trans ((a7v hl).2 w hx) hs)
        · exact a6U B
theorem b8m (s:Bs):dSm s.length (a2c s).1:=by
 unfold a2c
 split
 ·exact a6U _
 ·rename_i h
  exact a9B (fun w hw=>(a7C (Decidable.not_not.1 h)).2.2 w hw) (a6U _)
@[reducible] def dvT:Bs:=[110,111,100,101,32,112,32,103,114,111,117,112,61,98,108,111,99,107,32,109,97,114,107,115,61,42,32,58,32,116,101,120,116,42,10]
@[reducible] def dvG:Bs:=[103,114,111,117,112,61,98,108,111,99,107]
@[reducible] def dvB:Bs:=[98,108,111,99,107]
@[reducible] def dvM:Bs:=[109,97,114,107,115,61,42]
@[reducible] def dvX:Bs:=[116,101,120,116,42]
@[reducible] def dvW:List Bs:=[a8T,[112],dvG,dvM,[58],dvX]
@[reducible] def dvN:Nd:=⟨[112],[dvB],false,false,false,0,true,[],dvX⟩
theorem c3k:lexV dvX=.ok [⟨1,0,0,0,a4Z⟩,⟨5,4,0,-1,[]⟩]:=by
 have h:(match lexV dvX with | .ok l=>decide (l=[⟨1,0,0,0,a4Z⟩,⟨5,4,0,-1,[]⟩]) | .error _=>false)=true:=by decide +kernel
 split at h
 ·rename_i l hl;rw [hl,of_decide_eq_true h]
 ·cases h
theorem b1T:a3K dvX=(T.flat 0 (.times 0 (-1) (.name a4Z)),0,0) :=
 a9e (.ok _ _ c3k (.choice1 _ _ _ (.row1 _ _ _ (.times 0 1 _ (.name 0 (by decide)) (by decide)))))
theorem c1y {t:T} (h:T.flat 0 (.times 0 (-1) (.name a4Z))=T.flat 0 t):t=.times 0 (-1) (.name a4Z):=by
  have h0:T.flat 0 (.times 0 (-1) (.name a4Z))=[⟨1,0,0,a4Z,[]⟩]++[⟨4,0,-1,[],[0]⟩]:=by decide +kernel
  rw [h0] at h
  cases t with
  | name s=>exact absurd (congrArg List.length h) (by rw [T.flat_len];simp [T.size])
  | times lo hi u =>
    have h:_=T.flat 0 u++[⟨4,lo,hi,[],[((0+u.size:Nat):Int) - 1]⟩]:=h
    obtain ⟨ha,hb⟩:=List.append_inj' h rfl
    have hb:=(List.cons_eq_cons.1 hb).1
    have hl:(0:Int)=lo:=congrArg Pt.low hb
    have hh:(-1:Int)=hi:=congrArg Pt.high hb
    subst hl;subst hh
    cases u with
    | name s =>
      have ha:[(⟨1,0,0,a4Z,[]⟩:Pt)]=[⟨1,0,0,s,[]⟩]:=ha
      have hs:a4Z=s:=congrArg Pt.name (List.cons_eq_cons.1 ha).1
      rw [hs]
    | times a b v =>
      have:=congrArg List.length ha
      rw [T.flat_len] at this
      have h2:=T.size_pos v
      simp [T.size] at this;omega
    | many k ts =>
      have ha:[]++[(⟨1,0,0,a4Z,[]⟩:Pt)]=T.flatL 0 ts++[⟨k,0,0,[],rootsL 0 ts⟩]:=ha
      have hs:=congrArg Pt.name (List.cons_eq_cons.1 (List.append_inj' ha rfl).2).1
      cases hs
  | many k ts =>
    have h:_=T.flatL 0 ts++[⟨k,0,0,[],rootsL 0 ts⟩]:=h
    have hb:=(List.cons_eq_cons.1 (List.append_inj' h rfl).2).1
    have hh:(-1:Int)=0:=congrArg Pt.high hb
    cases hh
theorem b8C:a5Y dvX=dvX:=by
 have h:∃ t:T,t.ok=true∧t.size≤250∧a3K dvX=(T.flat 0 t,0,0):=⟨.times 0 (-1) (.name a4Z),by decide +kernel,by decide +kernel,b1T⟩
 unfold a5Y
 rw [dif_pos h]
 obtain ⟨h1,h2,h3⟩:=Classical.choose_spec h
 have h4:=congrArg (fun x:List Pt×Int×Int=>x.1) (b1T.symm.trans h3)
 have h4:T.flat 0 (.times 0 (-1) (.name a4Z))=T.flat 0 (Classical.choose h):=h4
 rw [c1y h4]
 decide +kernel
theorem b9a:a1A dvT=([dvT.dropLast],0,0):=by decide +kernel
theorem b7Q:a2a dvT.dropLast=some dvW:=by decide +kernel
theorem c1m:a2Y dvW=(dvN,true):=by
 show a8a [dvG,dvM,[58],dvX] [] _=_
 rw [a1Y (W:=a1S) (V:=dvB) (H:=true) (by decide) (by decide) (by decide +kernel),a1Y (W:=a7N) (V:=[42]) (H:=true) (by decide) (by decide) (by decide +kernel),a4r]
 show (_,decide ((a3K dvX).2.2=0))=_
 rw [b1T]
 show (({ (_:Nd) with leaf:=false,expr:=a5Y dvX }),true)=_
 rw [b8C]
 decide +kernel
theorem c2A:a1I Dc.zero dvW=(⟨[dvN],[]⟩,0):=by
 unfold a1I
 rw [c1m]
 decide +kernel
theorem b9R:a2c dvT=(⟨[dvN],[]⟩,0,0):=by
 unfold a2c
 rw [b9a]
 show (if (0:Int)≠0 then _ else a3m [dvT.dropLast] 0 Dc.zero)=_
 rw [if_neg (by decide)]
 unfold a3m
 rw [b7Q]
 show (if dvW=[] then _ else if (a1I Dc.zero dvW).2=0 then a3m [] 1 (a1I Dc.zero dvW).1 else _)=_
 rw [if_neg (by decide),c2A,if_pos rfl]
 rfl
end Go.Proofs.YtjdmfohncgkdoaaGreatDoor
namespace Go.Proofs.YtjdmfohncgkdoaaGreatDoor
set_option linter.unusedSimpArgs false
set_option linter.unusedVariables false
set_option maxRecDepth 100000
set_option maxHeartbeats 4000000
open Go.RowKit
theorem c1N {B:Nat} {d:Dc} (h:dSm B d) (hB:B≤999999):c4k d:=by
 obtain ⟨⟨h1,h2⟩,h3,h4⟩:=h
 refine ⟨by omega,by omega,fun k=>?_,fun k=>?_⟩
 ·rw [List.getD_eq_getElem?_getD]
  rcases Nat.lt_or_ge k d.nodes.length with hk | hk
  ·rw [List.getElem?_eq_getElem hk]
   have:=h3 _ (List.getElem_mem hk)
   exact ⟨Nat.le_trans this.1 (by omega),Nat.le_trans this.2 (by omega)⟩
  ·rw [List.getElem?_eq_none hk];exact ⟨Nat.zero_le _,Nat.zero_le _⟩
 ·rw [List.getD_eq_getElem?_getD]
  rcases Nat.lt_or_ge k d.marks.length with hk | hk
  ·rw [List.getElem?_eq_getElem hk]
   exact Nat.le_trans (h4 _ (List.getElem_mem hk)) (by omega)
  ·rw [List.getElem?_eq_none hk];exact Nat.zero_le _
theorem b2M:a0t Tryz.prog 6 [] (a0x true):=by
 have hp:a0t Tryz.prog 7 [a0r dvT] (c3J (⟨[dvN],[]⟩,0,0)):=by rw [←b9R];exact b2H dvT (by decide)
 refine a0n Tryz.func6 rfl (by kernel_rfl) _ _ _ rfl 57 rfl rfl (fun w F=>?_)
 refine ru 7 ?_
 refine cll (hp) ?_
 refine ru 64 ?_
 refine rt1 ?_
 exact .imm _
theorem a9L (s:Bs) (h5:5000 < s.length) (hs:s.length≤9223372036854775807):a0t Tryz.prog 3 [a0r s] (a0x true):=by
 refine a0n Tryz.func3 rfl (by kernel_rfl) _ _ _ rfl 42 rfl rfl (fun w F=>?_)
 refine ru 13 ?_
 refine wdc (fun hr0 hc0=>?_) (fun hr0 hc0=>?_)
 ·refine ru 2 ?_
  refine cll (b2M) ?_
  refine ru 5 ?_
  refine rt1 ?_
  exact .imm _
 exfalso;omega
theorem b0T (s:Bs) (hs:s.length≤9223372036854775807):a0t Tryz.prog 3 [a0r s] (a0x true):=by
 rcases Nat.lt_or_ge 5000 s.length with h5 | h5
 ·exact a9L s h5 hs
 have hsm:=b8m s
 have hsm2:=c1N hsm (by omega)
 refine a0n Tryz.func3 rfl (by kernel_rfl) _ _ _ rfl 42 rfl rfl (fun w F=>?_)
 refine ru 13 ?_
 refine wdc (fun hr0 hc0=>?_) (fun hr0 hc0=>?_)
 ·skip
  exfalso;omega
 refine ru 5 ?_
 refine cll (b2H s (by omega)) ?_
 refine ru 13 ?_
 refine cll (b6Y s (by omega)) ?_
 refine ru 13 ?_
 refine d0 2 (a0l (xs:=[_]) (c0H (a2c s).1 (by have:=hsm.1.1;omega) (by have:=hsm.1.2;omega)) ⟨rfl,trivial⟩ ⟨(show Fz _ (dcV (a2c s).1) (dcV (a2c s).1) from c0L _),trivial⟩) ?_
 refine ru 1 ?_
 refine d0 4 (a0l (xs:=[_,_]) (c1c (a2c s).1 (a2c s).1 hsm2) ⟨rfl,⟨rfl,trivial⟩⟩ ⟨(c0L _),⟨(show Fz _ (dcV (a2c s).1) (dcV (a2c s).1) from c0L _),trivial⟩⟩) ?_
 refine ru 11 ?_
 refine b0E 40 14 39 true _ (fun hb=>a0l (xs:=[]) (b2M) trivial trivial) rfl rfl rfl rfl a0e rfl rfl rfl (k':=16) rfl ?_
 refine ru 2 ?_
 refine b3n (by kernel_rfl) (by kernel_rfl) (c':=22) rfl ?_
 refine ru 2 ?_
 refine rt1 ?_
 exact a1m (by simp)
end Go.Proofs.YtjdmfohncgkdoaaGreatDoor
namespace Go.Proofs.YtjdmfohncgkdoaaGreatDoor
set_option linter.unusedSimpArgs false
set_option linter.unusedVariables false
open Go.ChangeShapes Go.WideShapes Go.ChangeAt Go.RowKit Go.Deep
section
variable {H:Type} {encH:TypeId×Value→H} {P:Program} {w:World} {base:Nat} {spare:Nat→Bool} {held:Bool}
end
end Go.Proofs.YtjdmfohncgkdoaaGreatDoor
namespace Go.Proofs.YtjdmfohncgkdoaaGreatDoor
set_option linter.unusedSimpArgs false
set_option linter.unusedVariables false
open Go.RowKit
theorem a7p (W:World) (hL:LibW W) (s:ByteArray) (hs:s.size≤maxLen) :
  Calls Tryz.prog 3 #[.string s] W fun e w'=>e=.returned (.bool true)∧Below W.heap.size W w':=by
 have hs':s.data.toList.length≤9223372036854775807:=by have:s.size=s.data.toList.length:=rfl;rw [←this];unfold maxLen at hs;omega
 exact b8I (b0T s.data.toList hs') W [.string s] ⟨.imm _,trivial⟩ hL
set_option maxRecDepth 100000
theorem a6N {W:World} {l:List (String×DataW Unit)} (h:laidMetH Tryz.prog l W) (hl:(l.all fun x=>x.2.handleName?.isNone)=true) (n:String) (d:DataW Unit) (hf:l.filter (fun x=>x.1 == n)=[(n,d)]):laidMet Tryz.prog [(n,d)] W:=by
 rw [MakeChecks.laidMetH_plain _ _ _ hl] at h
 have:=laidMet.filter (fun x=>x.1 == n) h
 rwa [hf] at this
theorem b0m {W:World} {n:String} {name:String} {d:DataW Unit} {g:Nat} {t:TypeId} {ms:Array (String×TypeId)} (hg:Tryz.prog.globalNamed n=some g) (hty:(Tryz.prog.globals[g]?).map (·.type)=some t) (ht:Tryz.prog.underlying t=some (.interface ms))
  (h:laidMet Tryz.prog [(n,.iface name d)] W):∃ tp p,W.var? Tryz.prog n=some #[.iface tp p]:=by
 obtain ⟨ps,⟨g',t',cs,fuel,p,q,hg',ht',hvar,hd,_,_⟩,_⟩:=h
 obtain rfl:=Option.some.inj (hg.symm.trans hg')
 obtain rfl:=Option.some.inj (hty.symm.trans ht')
 obtain ⟨f1,u,v,hc,_⟩:=iface_of_trod ht hd
 refine ⟨u,v,?_⟩
 rw [hvar]
 congr 1
 apply Array.ext'
 exact hc
theorem a9n {H:Type} {enc:TypeId×Value→H} {a:Assume} {C:Checked} {os:Os} {f:FuncId} {fn:Func} {s:ChangeSpec} {conds:List PathCond} {apart fresh handsOn again:Bool} {X:World→Array Value→Prop}
  (hX:∀ (w w':World) (args:Array Value),w.heap=w'.heap→X w args→X w' args)
  (own:ownKnob C.prog.godebug=none) (started:os.Started) (noInit:C.prog.inits.idxOf? f=none) (hfn:C.prog.funcs[f]?=some fn)
  (wit:∃ (w:World) (tape:Tape) (i:Input),w.os=os∧(w.forCall tape i).Shaped C.prog∧i.vars=[]∧Input.okWide C.prog (w.forCall tape i) .any w.heap.size f i ∧
   ((s.pre enc C.prog fn conds apart (w.forCall tape i).memory i.args∧X (w.forCall tape i).memory i.args)∧sizedMet enc C.prog fn (OpenSpec.ofChange s) apart (w.forCall tape i).memory i.args)∧a.holds C.prog (lone (Frame.enter C.prog f i.args .normal) [] (w.forCall tape i)))
  (con:∀ (W:World) (base:Nat) (args:Array Value) (ds gs:List (DataW H)) (before:List MemPlace),
   (∀ (j:Nat) t v,fn.params[j]?=some t→args[j]?=some v→Value.okWide C.prog W .any base t v) →
   DataW.Whole enc C.prog fn.params.toList s.vars apart W args.toList ds gs before →
   conds.all (PathCond.test C.prog ⟨fn.params.toList,ds,s.plain.varTypes C.prog,gs⟩)=true→X W args→W.ShapedOpen C.prog →
   Calls C.prog f args W fun e W'=>∃ v,e=.returned v∧s.post enc C.prog fn apart fresh handsOn again W args v W') :
  ReturnsInHanded a C os f .any (fun w args=>(s.pre enc C.prog fn conds apart w args∧X w args)∧sizedMet enc C.prog fn (OpenSpec.ofChange s) apart w args) (s.post enc C.prog fn apart fresh handsOn again):=by
 refine returnsInHanded_of_calls own started noInit wit fun w tape i _ hsh _ hok hpre _=>?_
 obtain ⟨_,_,_,fn',hfn',_,_,_,_,hval⟩:=hok
 obtain rfl:fn'=fn:=Option.some.inj (hfn'.symm.trans hfn)
 obtain ⟨⟨⟨ds,gs,before,hw,hc⟩,hx⟩,_⟩:=hpre
 refine (con (w.forCall tape i) w.heap.size i.args ds gs before hval (DataW.Whole.of_heap (w':=w.forCall tape i) (by rfl) hw) hc (hX _ _ _ (by rfl) hx) hsh).mono fun e W' ⟨v,he,hp⟩=>?_
 subst he
 exact ChangeSpec.post_blind hp
theorem c2g {W:World} (hs:W.ShapedOpen Tryz.prog):∃ m,W.cell? ⟨0,0,none⟩=some (.int .i64 m) :=
 cell_of_shapedOpen_int (zero:=#[.int .i64 0]) (t:=3) (k:=.i64) hs (of_decide_eq_true (by kernel_rfl)) (by kernel_rfl) rfl (by kernel_rfl) (by kernel_rfl) Tryz.underlying3
theorem c0n {W:World} {l:List (String×DataW Unit)} (hs:W.ShapedOpen Tryz.prog) (h:laidMetH Tryz.prog l W) (hl:(l.all fun x=>x.2.handleName?.isNone)=true)
  (h1:l.filter (fun x=>x.1 == "internal/strconv.uint64pow10")=[("internal/strconv.uint64pow10", Rows.laid_internal_strconv_uint64pow10)])
  (h2:l.filter (fun x=>x.1 == "strconv.ErrSyntax")=[("strconv.ErrSyntax", Rows.laid_strconv_ErrSyntax)])
  (h3:l.filter (fun x=>x.1 == "strconv.ErrRange")=[("strconv.ErrRange", Rows.laid_strconv_ErrRange)])
  (h4:l.filter (fun x=>x.1 == "math/bits.deBruijn64tab")=[("math/bits.deBruijn64tab", Rows.laid_math_bits_deBruijn64tab)]):LibW W:=by
 have t:=a6N h hl _ _ h1
 have a:=a6N h hl _ _ h2
 have b:=a6N h hl _ _ h3
 have t4:=a6N h hl _ _ h4
 have t4':Lib.TabIs Tryz.prog W "math/bits.deBruijn64tab" .u8 (Lib.deBruijn64tab.map (fun n:Nat=>(n:Int))) :=
  Lib.tabIs_of_head (zs:=Lib.deBruijn64tab.map (fun n:Nat=>(n:Int))) (k:=.u8) (g:=7) (t:=238) (e:=5) (n:=64) (by kernel_rfl) (by kernel_rfl) Tryz.underlying238 Tryz.underlying5 (by kernel_rfl) (by kernel_rfl) t4
 have t':Lib.TabIs Tryz.prog W "internal/strconv.uint64pow10" .u64 Lib.pow10Tab :=
  Lib.tabIs_of_head (zs:=Lib.pow10Tab) (k:=.u64) (g:=3) (t:=222) (e:=136) (n:=20) (by kernel_rfl) (by kernel_rfl) Tryz.underlying222 Tryz.underlying136 (by kernel_rfl) (by kernel_rfl) t
 have a':=b0m (g:=4) (t:=69) (by kernel_rfl) (by kernel_rfl) Tryz.underlying69 a
 have b':=b0m (g:=5) (t:=69) (by kernel_rfl) (by kernel_rfl) Tryz.underlying69 b
 have lt:∀ {n:String} {g:Nat} {x:Array Value},Tryz.prog.globalNamed n=some g→W.var? Tryz.prog n=some x→g < W.heap.size:=by
  intro n g x hg hv
  unfold World.var? at hv
  rw [hg] at hv
  simp only [Option.bind_some] at hv
  rcases Nat.lt_or_ge g W.heap.size with h | h
  ·exact h
  ·rw [Array.getElem?_eq_none h] at hv;cases hv
 have m':=c2g hs
 refine ⟨fun k hk=>?_,fun _=>t',fun _=>a',fun _=>b',fun g hg=>by
  obtain rfl:=Option.some.inj ((show Tryz.prog.globalNamed "internal/bytealg.MaxLen" = some 0 by kernel_rfl).symm.trans hg)
  exact m',fun _=>t4'⟩
 obtain ⟨n,hn,hg⟩:=hk
 simp only [a3D,List.mem_cons,List.not_mem_nil,or_false] at hn
 rcases hn with rfl | rfl | rfl | rfl | rfl
 ·exact lt hg t'
 ·obtain ⟨_,_,a'⟩:=a';exact lt hg a'
 ·obtain ⟨_,_,b'⟩:=b';exact lt hg b'
 ·obtain rfl:=Option.some.inj ((show Tryz.prog.globalNamed "internal/bytealg.MaxLen" = some 0 by kernel_rfl).symm.trans hg)
  obtain ⟨m,hm⟩:=m'
  exact World.block_lt_of_cell? W _ hm
 ·exact lt hg t4'
theorem b9T {W:World} (hs:W.ShapedOpen Tryz.prog) (h:laidMetH Tryz.prog Rows.declParsesRow.laid W):LibW W:=c0n hs h (by kernel_rfl) (by kernel_rfl) (by kernel_rfl) (by kernel_rfl) (by kernel_rfl)
end Go.Proofs.YtjdmfohncgkdoaaGreatDoor
