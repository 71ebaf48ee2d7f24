/-
  Whether parts are an expression's: the program's answer.
-/
import Derived.Test.YtjdmfohncgkdoaaGreatDoorEx7
import Derived.Test.YtjdmfohncgkdoaaGreatDoorLexB
import Derived.Lib.Split
import Derived.Lib.SplitLaws
import Derived.Lib.IndexBytes
import Derived.Lib.Join
import Derived.Test.YtjdmfohncgkdoaaGreatDoorHq4
import Derived.Shelf.Strings.Search3
import Derived.Shelf.Strings.Cut
import Derived.Test.YtjdmfohncgkdoaaGreatDoorProg
import Derived.Shelf.Strings.OnBuilder
import Derived.Shelf.Strings.Split
namespace Go.Proofs.YtjdmfohncgkdoaaGreatDoor
set_option linter.unusedSimpArgs false
set_option linter.unusedVariables false
set_option maxRecDepth 100000
set_option maxHeartbeats 1000000
open Go.RowKit
theorem b3y (a:List Int) {lo n k:Nat} (hk:k < n) (h:lo+n≤a.length):((a.drop lo).take n).getD k 0=a.getD (lo+k) 0:=by
 rw [List.getD_eq_getElem?_getD,List.getD_eq_getElem?_getD,List.getElem?_take,if_pos hk,List.getElem?_drop]
theorem c0p (g lo n:Nat) (a b:List Int) (ha:a.length≤1000000) (hb:b.length≤1000000) (hn:lo+n≤a.length):a5a Tryz.prog 115 [.os 8001 g lo n,a1t b] [(8001,⟨g,a.length,1,3,0,a2R a⟩)] (a0x (decide ((a.drop lo).take n=b))) [(8001,⟨g,a.length,1,3,0,a2R a⟩)]:=by
 have hcl:((a.drop lo).take n).length=n:=by rw [List.length_take,List.length_drop];omega
 intro c
 refine a0v Tryz.func115 rfl kr _ _ _ _ rfl 26 rfl rfl (fun X ok hX=>?_)
 refine ru 15 ?_
 refine wdc (fun hr0 hc0=>?_) (fun hr0 hc0=>?_)
 ·refine ru 7 ?_
  refine fr1 ok hX rw1 (()) (trivial) (by rw [decide_eq_false (fun h=>hc0 (by rw [←h,hcl]))];exact kza) ?_
  exact ⟨⟨_,rfl,.of (fun i j _ _=>.fz _ _ (.imm _))⟩,trivial⟩
 refine ru 11 ?_
 refine a0o (α:=Nat) (fun x c=>⟨26,[(0,.v (.os 8001 g lo n)),(1,.v (a1t b)),(12,.v (a0g n)),(13,.v (a0g x))],[(8001,⟨g,a.length,1,3,0,a2R a⟩)],c⟩) (fun x=>x≤n∧∀ j,j < x→a.getD (lo+j) 0=b.getD j 0) (fun x=>n - x) (0) (by exact ⟨Nat.zero_le _,fun j hj=>absurd hj (Nat.not_lt_zero _)⟩) (a0c rfl (Nat.le_refl _) tsa hsa) (fun k c hx NhL1 hL1=>?_)
 (try dsimp only at hx hL1 ⊢)
 obtain ⟨hk,hE⟩:=hx
 refine ru 6 ?_
 refine wdc (fun hr1 hc1=>?_) (fun hr1 hc1=>?_)
 ·refine ru 15 ?_
  first
  | refine a3y 19 (HOp.val (v':=a0g (a.getD (lo+k) 0)) (a0H ty_3.h rfl (by first | exact Nat.le_of_ble_eq_true rfl | omega | (dsimp only;omega) | (simp <;> omega)) (by first | exact Nat.le_of_ble_eq_true rfl | omega | (dsimp only;omega) | (simp <;> omega)) (fun h=>(by first | rfl | cases h))) (rfl)) rfl rfl (a0B rfl) rfl rfl (k':=4) rfl ?_
  | refine a3y 19 (HOp.val (v':=a0g (a.getD (lo+k) 0)) (a0q ty_3.h rfl (by first | exact Nat.le_of_ble_eq_true rfl | omega | (dsimp only;omega) | (simp <;> omega)) (fun h=>(by first | rfl | cases h))) (rfl)) rfl rfl a0e rfl rfl (k':=4) rfl ?_
  refine ru 3 ?_
  first
  | refine a3y 23 (HOp.val (v':=a0g (b.getD k 0)) (a0H ty_3.h rfl (by first | exact Nat.le_of_ble_eq_true rfl | omega | (dsimp only;omega) | (simp <;> omega)) (by first | exact Nat.le_of_ble_eq_true rfl | omega | (dsimp only;omega) | (simp <;> omega)) (fun h=>(by first | rfl | cases h))) (rfl)) rfl rfl (a0B rfl) rfl rfl (k':=8) rfl ?_
  | refine a3y 23 (HOp.val (v':=a0g (b.getD k 0)) (a0q ty_3.h rfl (by first | exact Nat.le_of_ble_eq_true rfl | omega | (dsimp only;omega) | (simp <;> omega)) (fun h=>(by first | rfl | cases h))) (rfl)) rfl rfl a0e rfl rfl (k':=8) rfl ?_
  refine ru 3 ?_
  refine wdc (fun hr2 hc2=>?_) (fun hr2 hc2=>?_)
  ·refine ru 8 ?_
   refine a0f ?_
   refine ru 2 ?_
   refine fr1 ok hX rw1 (()) (trivial) (by rw [decide_eq_false (fun h=>hc2 (by rw [←h,b3y a om hn]))];exact kza) ?_
   exact ⟨⟨_,rfl,.of (fun i j _ _=>.fz _ _ (.imm _))⟩,trivial⟩
  refine ru 7 ?_
  exact hL1 (k+1) _ _ (by (try dsimp only);exact ⟨by omega,fun j hj=>by by_cases e:j=k;(· subst e;exact hc2);exact hE j om⟩) (by (try dsimp only);omega) (a0c rfl (Nat.le_refl _) tsa hsa)
 refine ru 2 ?_
 refine a0d ?_
 refine ru 8 ?_
 refine fr1 ok hX rw1 (()) (trivial) (by rw [decide_eq_true (a6T 0 om (fun j hj=>by rw [b3y a om hn];exact hE j om))];exact kza) ?_
 exact ⟨⟨_,rfl,.of (fun i j _ _=>.fz _ _ (.imm _))⟩,trivial⟩
theorem a7H (a b:Int):(a == b)=decide (a=b):=rfl
theorem c1V (n:Nat):decide ((n:Int)=0)=decide (n=0):=decide_eq_decide.2 (by omega)
theorem b7E (n:Nat):decide ((n:Int)=1)=decide (n=1):=decide_eq_decide.2 (by omega)
theorem b6g (n:Nat):decide (1 < (n:Int))=decide (1 < n):=decide_eq_decide.2 (by omega)
theorem b6K (s:List UInt8) (hs:s.length≤1000000):a0t Tryz.prog 137 [a0r s] (a0x (a2P s)):=by
  have hlen:=a5L s
  have hlx:=c2f s hs
  have hN:a2P s=(match b4J (lexV s) with | (l,_,e)=>decide (e=0)&&decide (l.length=1)&&decide ((l.getD 0 default).kind=1)&&decide ((l.getD 0 default).name=s)):=by
    unfold a2P
    cases hv:lexV s with
    | error e =>
      have h:=a6S hv
      have h2:¬ (e.2=0):=h
      show false=(decide (e.2=0)&&_&&_&&_)
      rw [decide_eq_false h2];rfl
    | ok l =>
      match l with
      | []=>rfl
      | [x]=>rfl
      | x::y::l=>simp [b4J]
  generalize hr:b4J (lexV s)=r at hlen hlx hN
  rw [hN]
  obtain ⟨l,a,e⟩:=r
  refine a0n Tryz.func137 rfl kr _ _ _ rfl 34 rfl rfl (fun w F=>?_)
  refine ru 8 ?_
  refine cll (hlx) ?_
  refine ru 23 ?_
  refine ry (a0g (l.getD 0 default).kind) rfl (fun hb=>rfl) ?_
  refine ru 7 ?_
  refine ry (a0r (l.getD 0 default).name) rfl (fun hb=>rfl) ?_
  refine ru 7 ?_
  refine rt1 ?_
  exact a1m (by simp only [a7H,b7E])
theorem c0j (x:Pt) (hk:x.kids.length≤1000000) (hn:x.name.length≤1000000):a0t Tryz.prog 114 [ptH x] (a0x (a3H x)):=by
 unfold a3H
 refine a0n Tryz.func114 rfl kr _ _ _ rfl 89 rfl rfl (fun w F=>?_)
 refine ru 20 ?_
 refine wdc (fun hr0 hc0=>?_) (fun hr0 hc0=>?_)
 ·refine ru 19 ?_
  first
  | refine stg 22 (fun hb=>a0l (xs:=[_]) (b6K x.name hn) ⟨rfl,trivial⟩ ⟨(Fz.eq rfl),trivial⟩) rfl rfl rfl rfl rfl ?_
  | refine sth 22 (fun hb=>a0l (xs:=[_]) (b6K x.name hn) ⟨rfl,trivial⟩ ⟨(Fz.eq rfl),trivial⟩) rfl rfl rfl rfl rfl ?_
  refine ru 7 ?_
  refine rt1 ?_
  rw [if_pos hc0];exact a1m (by simp only [a7H,c1V])
 refine ru 7 ?_
 refine wdc (fun hr1 hc1=>?_) (fun hr1 hc1=>?_)
 ·refine ru 2 ?_
  refine wdc (fun hr2 hc2=>?_) (fun hr2 hc2=>?_)
  ·refine ru 27 ?_
   refine rt1 ?_
   rw [if_neg hc0,if_pos (.inl hc1)];exact a1m (by simp only [a7H,b6g])
  exfalso;exact absurd hr2 (by rw [hc1];decide)
 refine ru 5 ?_
 refine wdc (fun hr2 hc2=>?_) (fun hr2 hc2=>?_)
 ·refine ru 27 ?_
  refine rt1 ?_
  rw [if_neg hc0,if_pos (.inr hc2)];exact a1m (by simp only [a7H,b6g])
 refine ru 6 ?_
 refine wdc (fun hr3 hc3=>?_) (fun hr3 hc3=>?_)
 ·refine ru 51 ?_
  refine rt1 ?_
  rw [if_neg hc0,if_neg (show ¬ (x.kind=2∨x.kind=3) by omega),if_pos hc3];exact a1m (by simp only [a7H,b7E])
 refine ru 9 ?_
 refine rt1 ?_
 rw [if_neg hc0,if_neg (show ¬ (x.kind=2∨x.kind=3) by omega),if_neg hc3];exact .imm _
theorem b4d {n i:Nat} {e:List Pt} {op:List Int} (hi:i < e.length):a3F n i (e.drop i) op=((a3H (e.getD i default)&&(decide ((e.getD i default).kids.length≤op.length)&&decide (op.drop (op.length - (e.getD i default).kids.length)=(e.getD i default).kids)))&&a3F n (i+1) (e.drop (i+1)) (op.take (op.length - (e.getD i default).kids.length)++[(i:Int)])):=by
 have h:e.drop i=e.getD i default::e.drop (i+1):=by
  rw [List.getD_eq_getElem?_getD,List.getElem?_eq_getElem hi,List.drop_eq_getElem_cons hi];rfl
 rw [h];rfl
theorem c2d {id g lo lo' n n':Nat} (h1:lo=lo') (h2:n=n'):HV.os id g lo n=HV.os id g lo' n':=by subst h1;subst h2;rfl
instance frz_ptH (x:Pt):Frz (ptH x):=⟨.agg _ _ _ fun j hj=>b1g x j⟩
theorem b3a {op:List Int} {k:Nat} (h:k≤op.length):(op.drop (op.length - k)).take k=op.drop (op.length - k):=List.take_of_length_le (by rw [List.length_drop];omega)
theorem b8W {x:Pt} {op:List Int} (h:(!a3H x||decide ((op.length:Int) - x.kids.length < 0)||!decide ((op.drop (op.length - x.kids.length)).take x.kids.length=x.kids))=true):(a3H x&&(decide (x.kids.length≤op.length)&&decide (op.drop (op.length - x.kids.length)=x.kids)))=false:=by
 by_cases hk:x.kids.length≤op.length
 ·rw [b3a hk,decide_eq_false (show ¬ ((op.length:Int) - x.kids.length < 0) by omega)] at h
  rw [decide_eq_true hk]
  cases ha:a3H x <;> rw [ha] at h <;> simp at h ⊢
  exact h
 ·rw [decide_eq_false hk];simp
theorem b6R {x:Pt} {op:List Int} (h:(!a3H x||decide ((op.length:Int) - x.kids.length < 0)||!decide ((op.drop (op.length - x.kids.length)).take x.kids.length=x.kids))=false):(a3H x&&(decide (x.kids.length≤op.length)&&decide (op.drop (op.length - x.kids.length)=x.kids)))=true∧x.kids.length≤op.length:=by
 simp only [Bool.or_eq_false_iff,Bool.not_eq_false',decide_eq_false_iff_not] at h
 have hk:x.kids.length≤op.length:=by omega
 have h2:=h.2
 rw [b3a hk] at h2
 exact ⟨by rw [h.1.1,decide_eq_true hk,h2];rfl,hk⟩
theorem b8y {op:List Int} {N k g ty:Nat} {r:Int} {F:Nat→Nat→HV} (hN:N=k) (hk:k≤op.length) (hF:∀ j,F 0 j=a0g r):a5V ⟨g,N+1,1,ty,0,cat N (a2R op) F⟩ ⟨g,(op.take k++[r]).length,1,ty,0,a2R (op.take k++[r])⟩:=by
 subst hN
 have hl:(op.take N).length=N:=by rw [List.length_take];omega
 exact a0w (enc:=fun x _=>a0g x) (d:=0) (out:=op.take N) hl.symm (fun i j hi hj=>by
  have:(op.take N).getD i 0=op.getD i 0:=by rw [List.getD_eq_getElem?_getD,List.getD_eq_getElem?_getD,List.getElem?_take,if_pos (by omega)]
  show Sb (a0g (op.getD i 0)) (a0g ((op.take N).getD i 0))
  rw [this];exact .refl _) (fun j hj=>by rw [hF];exact .refl _)
theorem c0r {a:Bool} {ol kl:Nat} (h:(!a||decide ((ol:Int) - kl < 0))=false):ol - kl+kl≤ol:=by simp at h;omega
theorem b6o (e:List Pt) (he:PtB e):a0t Tryz.prog 81 [a5f e] (a0x (b0h e)):=by
 have hel:=he.1
 refine a0n Tryz.func81 rfl kr _ _ _ rfl 51 rfl rfl (fun w F=>?_)
 refine ru 19 ?_
 refine a4b 3 8001 1 3 ((a2R [])) rfl (by decide) rfl (c':=1) rfl ?_
 refine a0o (α:=Nat×List Int×Nat) (fun x c=>⟨51,[(0,.v (a5f e)),(3,.v (.os 8001 x.2.2 0 x.2.1.length)),(7,.v (a5f e)),(8,.v (a0g e.length)),(9,.v (a0g x.1))],[(8001,⟨x.2.2,x.2.1.length,1,3,0,a2R x.2.1⟩)],c⟩) (fun x=>x.1≤e.length∧x.2.1.length≤x.1∧a3F e.length x.1 (e.drop x.1) x.2.1=b0h e) (fun x=>e.length - x.1) ((0,[],0)) (by exact ⟨Nat.zero_le _,Nat.zero_le _,rfl⟩) (a0c rfl (Nat.le_refl _) tsa hsa) (fun x c hx NhL1 hL1=>?_)
 revert hx hL1;obtain ⟨i,op,g⟩:=x;intro hx hL1;dsimp only at hx hL1 ⊢
 obtain ⟨hi,hop,hR⟩:=hx
 refine ru 6 ?_
 refine wdc (fun hr0 hc0=>?_) (fun hr0 hc0=>?_)
 ·skip
  have hil:i < e.length:=om;have hkb:=he.2 i hil;have hst:=b4d (n:=e.length) (op:=op) hil
  refine ru 9 ?_
  refine rvl (ptH (e.getD i default)) (rfl) ?_
  refine ru 11 ?_
  refine rvl (a1t (e.getD i default).kids) (rfl) ?_
  refine ru 8 ?_
  first
  | refine a3y 20 (HOp.val (v':=ptH (e.getD i default)) (a0H ty_106.h rfl (by first | exact Nat.le_of_ble_eq_true rfl | omega | (dsimp only;omega) | (simp <;> omega)) (by first | exact Nat.le_of_ble_eq_true rfl | omega | (dsimp only;omega) | (simp <;> omega)) (fun h=>(by first | rfl | cases h))) (rfl)) rfl rfl (a0B rfl) rfl rfl (k':=1) rfl ?_
  | refine a3y 20 (HOp.val (v':=ptH (e.getD i default)) (a0q ty_106.h rfl (by first | exact Nat.le_of_ble_eq_true rfl | omega | (dsimp only;omega) | (simp <;> omega)) (fun h=>(by first | rfl | cases h))) (rfl)) rfl rfl a0e rfl rfl (k':=1) rfl ?_
  refine clx (c0j (e.getD i default) om om) ?_
  refine ru 8 ?_
  first
  | refine b0E 30 7 27 false _ (fun hb=>HOp.val (v':=.os 8001 g (op.length - (e.getD i default).kids.length) (e.getD i default).kids.length) (a8G el_104.h rfl (.inr ⟨_,_,rfl,rfl⟩) (.inl ⟨rfl,rfl⟩) (by first | exact Nat.le_of_ble_eq_true rfl | (simp at hb;first | omega | (dsimp only;omega) | (simp <;> omega)) | omega | (dsimp only;omega)) (by first | exact Nat.le_of_ble_eq_true rfl | (simp at hb;first | omega | (dsimp only;omega) | (simp <;> omega)) | omega | (dsimp only;omega)) (by first | exact Nat.le_of_ble_eq_true rfl | (simp at hb;first | omega | (dsimp only;omega) | (simp <;> omega)) | omega | (dsimp only;omega))) (c2d (by simp at hb;omega) (by simp at hb;omega))) rfl rfl rfl rfl a0e rfl rfl rfl (k':=11) rfl ?_
  | refine b0E 30 7 27 false _ (fun hb=>HOp.val (v':=.os 8001 g (op.length - (e.getD i default).kids.length) (e.getD i default).kids.length) (a8N el_104.h rfl (.inr ⟨_,_,rfl,rfl⟩) (.inl ⟨rfl,rfl⟩) (by first | exact Nat.le_of_ble_eq_true rfl | (simp at hb;first | omega | (dsimp only;omega) | (simp <;> omega)) | omega | (dsimp only;omega)) (by first | exact Nat.le_of_ble_eq_true rfl | (simp at hb;first | omega | (dsimp only;omega) | (simp <;> omega)) | omega | (dsimp only;omega)) (by first | exact Nat.le_of_ble_eq_true rfl | (simp at hb;first | omega | (dsimp only;omega) | (simp <;> omega)) | omega | (dsimp only;omega))) (c2d (by simp at hb;omega) (by simp at hb;omega))) rfl rfl rfl rfl (a0B rfl) rfl rfl rfl (k':=11) rfl ?_
  refine ru 1 ?_
  first
  | refine b0E 32 7 27 false _ (fun hb=>HOp.val (v':=a1t (e.getD i default).kids) (a0H ty_104.h rfl (by first | exact Nat.le_of_ble_eq_true rfl | (simp at hb;first | omega | (dsimp only;omega) | (simp <;> omega)) | omega | (dsimp only;omega)) (by first | exact Nat.le_of_ble_eq_true rfl | (simp at hb;first | omega | (dsimp only;omega) | (simp <;> omega)) | omega | (dsimp only;omega)) (fun h=>(by first | rfl | cases h))) (rfl)) rfl rfl rfl rfl (a0B rfl) rfl rfl rfl (k':=13) rfl ?_
  | refine b0E 32 7 27 false _ (fun hb=>HOp.val (v':=a1t (e.getD i default).kids) (a0q ty_104.h rfl (by first | exact Nat.le_of_ble_eq_true rfl | (simp at hb;first | omega | (dsimp only;omega) | (simp <;> omega)) | omega | (dsimp only;omega)) (fun h=>(by first | rfl | cases h))) (rfl)) rfl rfl rfl rfl a0e rfl rfl rfl (k':=13) rfl ?_
  refine b0E 33 7 27 false _ (fun hb=>a0y (xs:=[_,_]) (pre:=[(8001,_)]) (c0p g (op.length - (e.getD i default).kids.length) (e.getD i default).kids.length op (e.getD i default).kids om om (c0r hb)) ⟨rfl,⟨rfl,trivial⟩⟩) rfl rfl rfl rfl (a0h rfl a0e) rfl rfl rfl (k':=14) rfl ?_
  refine ru 2 ?_
  refine b3n kr kr (c':=c+18) rfl ?_
  refine ru 1 ?_
  refine wdc (fun hr1 hc1=>?_) (fun hr1 hc1=>?_)
  ·skip
   have hf:=b8W hr1;rw [hf,Bool.false_and] at hst
   refine ru 9 ?_
   refine a0f ?_
   refine ru 2 ?_
   refine rt1 ?_
   rw [←hR,hst];exact .imm _
  obtain ⟨hf,hkl⟩:=b6R hr1;rw [hf,Bool.true_and] at hst
  refine ru 7 ?_
  refine a0p 40 (a0b (id:=40) (hs:=[_]) ei_104.h omx rfl omx ⟨rfl,rfl,rfl,rfl,trivial⟩) rfl rfl a0e rfl rfl (c':=c+19) rfl ?_
  first
  | refine a0p 41 (a0a ei_104.h (by first | exact Nat.le_of_ble_eq_true rfl | omega | (dsimp only;omega) | (simp <;> omega)) rfl (by first | exact Nat.le_of_ble_eq_true rfl | omega | (dsimp only;omega) | (simp <;> omega)) (by first | exact Nat.le_of_ble_eq_true rfl | omega | (dsimp only;omega) | (simp <;> omega)) (a0s rfl (by first | exact Nat.le_of_ble_eq_true rfl | omega | (dsimp only;omega) | (simp <;> omega))) (by first | exact Nat.le_of_ble_eq_true rfl | omega | (dsimp only;omega) | (simp <;> omega)) rfl) rfl rfl (a0h rfl (a0B rfl)) rfl rfl (c':=c+20) rfl ?_
  | refine a0p 41 (a0a ei_104.h (by first | exact Nat.le_of_ble_eq_true rfl | omega | (dsimp only;omega) | (simp <;> omega)) rfl (by first | exact Nat.le_of_ble_eq_true rfl | omega | (dsimp only;omega) | (simp <;> omega)) (by first | exact Nat.le_of_ble_eq_true rfl | omega | (dsimp only;omega) | (simp <;> omega)) (a0D rfl (by first | exact Nat.le_of_ble_eq_true rfl | omega | (dsimp only;omega) | (simp <;> omega))) (by first | exact Nat.le_of_ble_eq_true rfl | omega | (dsimp only;omega) | (simp <;> omega)) rfl) rfl rfl (a0h rfl (a0B rfl)) rfl rfl (c':=c+20) rfl ?_
  | refine a0p 41 (a0a ei_104.h (by first | exact Nat.le_of_ble_eq_true rfl | omega | (dsimp only;omega) | (simp <;> omega)) rfl (by first | exact Nat.le_of_ble_eq_true rfl | omega | (dsimp only;omega) | (simp <;> omega)) (by first | exact Nat.le_of_ble_eq_true rfl | omega | (dsimp only;omega) | (simp <;> omega)) (a0C rfl) (by first | exact Nat.le_of_ble_eq_true rfl | omega | (dsimp only;omega) | (simp <;> omega)) rfl) rfl rfl (a0h rfl a0e) rfl rfl (c':=c+20) rfl ?_
  | refine a0p 41 (a0a ei_104.h (by first | exact Nat.le_of_ble_eq_true rfl | omega | (dsimp only;omega) | (simp <;> omega)) rfl (by first | exact Nat.le_of_ble_eq_true rfl | omega | (dsimp only;omega) | (simp <;> omega)) (by first | exact Nat.le_of_ble_eq_true rfl | omega | (dsimp only;omega) | (simp <;> omega)) (a0u 1 (fun _ _=>default) rfl) (by first | exact Nat.le_of_ble_eq_true rfl | omega | (dsimp only;omega) | (simp <;> omega)) rfl) rfl rfl (a0h rfl a0e) rfl rfl (c':=c+20) rfl ?_
  refine ru 8 ?_
  exact hL1 ((i+1,op.take (op.length - (e.getD i default).kids.length)++[(i:Int)],c+19)) _ _ (by (try dsimp only);exact ⟨by omega,by rw [List.length_append,List.length_take];show _+1≤_;omega,by rw [←hst];exact hR⟩) (by (try dsimp only);omega) (a0c rfl (Nat.le_refl _) (tsr rfl (a0E.cons rfl (by dsimp only;exact a1G (by rw [List.length_append,List.length_take];show _+1=_+1;omega)) tsa)) (a0j.cons rfl (by dsimp only;exact b8y (k:=op.length - (e.getD i default).kids.length) (r:=(i:Int)) om om (fun _=>rfl)) a0j.nil))
 refine ru 2 ?_
 refine a0d ?_
 refine ru 16 ?_
 refine rt1 ?_
 rw [←hR,List.drop_eq_nil_of_le om];exact a1m (by simp only [a3F,a7H,b7E,c1V])
end Go.Proofs.YtjdmfohncgkdoaaGreatDoor
namespace Go.Proofs.YtjdmfohncgkdoaaGreatDoor
set_option linter.unusedSimpArgs false
set_option linter.unusedVariables false
def T.kind:T→Int
 | .name _=>1
 | .times _ _ _=>4
 | .many k _=>k
def inB (p k:Int):Bool:=if p=3 then decide (k=3) else if p=2 then decide (k=2)||decide (k=3) else !decide (k=1)
def a1h (b:Bool) (l:List Sg):List Sg:=if b=true then [⟨2,0,0,0,[]⟩]++l++[⟨3,0,0,0,[]⟩] else l
def orS (k:Int) (f:Bool):List Sg:=if k=3∧f=false then [⟨4,0,0,0,[]⟩] else []
mutual
def T.sig:T→List Sg
 | .name s=>[⟨1,0,0,0,s⟩]
 | .times lo hi t=>a1h (inB 4 t.kind) (T.sig t)++[⟨5,0,lo,hi,[]⟩]
 | .many k ts=>T.sigL k true ts
def T.sigL (k:Int):Bool→List T→List Sg
 | _,[]=>[]
 | f,t::ts=>orS k f++a1h (inB k t.kind) (T.sig t)++T.sigL k false ts
end
theorem a3f (b:Bool) (l:List Sg):(a1h b l).length≤l.length+2∧l.length≤(a1h b l).length:=by
 unfold a1h;split
 ·simp;omega
 ·omega
theorem b9r (k:Int) (f:Bool):(orS k f).length≤1:=by unfold orS;split <;> simp
theorem T.sigL_snoc (k:Int):∀ (ts:List T) (f:Bool) (t:T),T.sigL k f (ts++[t])=T.sigL k f ts++orS k (f&&decide (ts=[]))++a1h (inB k t.kind) t.sig
 | [],f,t=>by simp [T.sigL]
 | x::ts,f,t=>by simp [T.sigL,T.sigL_snoc k ts false t]
mutual
theorem a7t:∀ t:T,t.ok=true→t.sig.length+3≤4 * t.size∧0 < t.sig.length
  | .name s,_=>by simp [T.sig,T.size]
  | .times lo hi t, h => by
    simp only [T.ok,Bool.and_eq_true] at h
    have a:=a7t t h.2
    have b:=a3f (inB 4 t.kind) t.sig
    simp only [T.sig,T.size,List.length_append,List.length_singleton];omega
  | .many k ts, h => by
    simp only [T.ok,Bool.and_eq_true,decide_eq_true_eq] at h
    have a:=b2P k ts h.2 true
    have b:=b7V k ts h.2 (by omega)
    simp only [T.sig,T.size]
    simp only [if_true] at a
    exact ⟨by omega,b⟩
theorem b2P (k:Int):∀ ts:List T,T.okL ts=true→∀ f,(T.sigL k f ts).length+(if f=true then min 1 ts.length else 0)≤4 * T.sizeL ts
  | [],_,f=>by simp [T.sigL,T.sizeL]
  | t :: ts, h, f => by
    simp only [T.okL,Bool.and_eq_true] at h
    have a:=a7t t h.1
    have b:=a3f (inB k t.kind) t.sig
    have d:=b2P k ts h.2 false
    have e:=b9r k f
    simp only [Bool.false_eq_true,if_false] at d
    simp only [T.sigL,T.sizeL,List.length_append,List.length_cons]
    cases f with
    | true => have : (orS k true).length = 0 := by unfold orS; rw [if_neg (by simp)]; rfl
              simp only [if_true];omega
    | false=>simp only [Bool.false_eq_true,if_false];omega
theorem b7V (k:Int):∀ ts:List T,T.okL ts=true→0 < ts.length→0 < (T.sigL k true ts).length
  | [],_,h=>absurd h (by simp)
  | t :: ts, h, _ => by
    simp only [T.okL,Bool.and_eq_true] at h
    have a:=a7t t h.1
    have b:=a3f (inB k t.kind) t.sig
    simp only [T.sigL,List.length_append];omega
end
def AtP (e:List Pt) (b:Nat) (l:List Pt):Prop:=∃ u v,e=u++l++v∧u.length=b
theorem c0F {e:List Pt} {b:Nat} {l:List Pt} (h:AtP e b l) {i:Nat} (hi:i < l.length):e.getD (b+i) default=l.getD i default∧b+i < e.length:=by
 obtain ⟨u,v,rfl,rfl⟩:=h
 refine ⟨?_,by simp only [List.length_append];omega⟩
 rw [List.append_assoc,List.getD_eq_getElem?_getD,List.getElem?_append_right (by omega),Nat.add_sub_cancel_left,List.getElem?_append_left hi,←List.getD_eq_getElem?_getD]
theorem a5s {e:List Pt} {b:Nat} {l k:List Pt} (h:AtP e b (l++k)):AtP e b l:=by
 obtain ⟨u,v,rfl,hu⟩:=h
 exact ⟨u,k++v,by simp,hu⟩
theorem b6P {e:List Pt} {b b':Nat} {l k:List Pt} (h:AtP e b (l++k)) (hb:b'=b+l.length):AtP e b' k:=by
 obtain ⟨u,v,rfl,hu⟩:=h
 exact ⟨u++l,v,by simp,by rw [List.length_append,hu,hb]⟩
theorem b1c:∀ (ts:List T) (b i:Nat),i < ts.length→∃ v,T.flatL b ts=T.flatL b (ts.take i)++T.flat (b+T.sizeL (ts.take i)) (ts.getD i default)++v
  | t::ts,b,0,_=>⟨T.flatL (b+t.size) ts,by simp [T.flatL,T.sizeL]⟩
  | t :: ts, b, i + 1, h => by
    obtain ⟨v,hv⟩:=b1c ts (b+t.size) i (by simpa using h)
    refine ⟨v,?_⟩
    simp only [T.flatL,List.take_succ_cons,T.sizeL,hv,List.getD_cons_succ,List.append_assoc,Nat.add_assoc]
theorem a7S {e:List Pt} {b i:Nat} {ts:List T} {k:Int} (h:AtP e b (T.flat b (.many k ts))) (hi:i < ts.length):AtP e (b+T.sizeL (ts.take i)) (T.flat (b+T.sizeL (ts.take i)) (ts.getD i default)):=by
 obtain ⟨v,hv⟩:=b1c ts b i hi
 simp only [T.flat,hv] at h
 have h:=a5s (a5s h)
 exact b6P h (by rw [T.flatL_len])
theorem a3T:∀ (ts:List T) (b i:Nat),i < ts.length→(rootsL b ts).getD i 0=T.root (b+T.sizeL (ts.take i)) (ts.getD i default)
  | t::ts,b,0,_=>by simp [rootsL,T.root,T.sizeL]
  | t :: ts, b, i + 1, h => by
    have:=a3T ts (b+t.size) i (by simpa using h)
    simp only [rootsL,List.getD_cons_succ,List.take_succ_cons,T.sizeL,this,Nat.add_assoc]
def T.top (b:Nat):T→Pt
 | .name s=>⟨1,0,0,s,[]⟩
 | .times lo hi t=>⟨4,lo,hi,[],[((b+t.size:Nat):Int) - 1]⟩
 | .many k ts=>⟨k,0,0,[],rootsL b ts⟩
theorem a2t (b:Nat) (t:T):(t.top b).kind=t.kind:=by cases t <;> rfl
theorem b8k (b:Nat) (t:T):(T.flat b t).getD (t.size - 1) default=t.top b:=by
 cases t with
 | name s=>rfl
 | times lo hi t=>simp only [T.flat,T.size,T.top,Nat.add_sub_cancel];rw [←T.flat_len b t];exact a2u _ _ _
 | many k ts=>simp only [T.flat,T.size,T.top,Nat.add_sub_cancel];rw [←T.flatL_len b ts];exact a2u _ _ _
theorem a3C {e:List Pt} {b:Nat} {t:T} (h:AtP e b (T.flat b t)):e.getD (b+t.size - 1) default=t.top b∧b+t.size≤e.length:=by
 have hs:=t.size_pos
 have:=c0F h (i:=t.size - 1) (by rw [T.flat_len];omega)
 rw [b8k,show b+(t.size - 1)=b+t.size - 1 by omega] at this
 exact ⟨this.1,by omega⟩
theorem a9U (k:Int):∀ (ts:List T) (f:Bool) (i:Nat),i < ts.length→T.sigL k f ts=T.sigL k f (ts.take i)++(orS k (f&&decide (i=0))++a1h (inB k (ts.getD i default).kind) (ts.getD i default).sig)++T.sigL k false (ts.drop (i+1))
  | t::ts,f,0,_=>by simp [T.sigL]
  | t :: ts, f, i + 1, h => by
    have:=a9U k ts false i (by simpa using h)
    simp only [T.sigL,List.take_succ_cons,List.getD_cons_succ,List.drop_succ_cons]
    rw [this]
    simp
theorem a3q (k:Int) (ts:List T) (i:Nat) (h:i < ts.length):T.sigL k true (ts.take (i+1))=T.sigL k true (ts.take i)++(orS k (decide (i=0))++a1h (inB k (ts.getD i default).kind) (ts.getD i default).sig):=by
 have e:ts.take (i+1)=ts.take i++[ts.getD i default]:=by
  rw [List.take_add_one,List.getD_eq_getElem?_getD,List.getElem?_eq_getElem h];rfl
 rw [e,T.sigL_snoc]
 have:decide (ts.take i=[])=decide (i=0):=decide_eq_decide.2 (by
  rw [List.take_eq_nil_iff]
  constructor
  ·rintro (h1 | h1)
   ·exact h1
   ·subst h1;exact absurd h (Nat.not_lt_zero _)
  ·exact .inl)
 rw [this]
 simp
end Go.Proofs.YtjdmfohncgkdoaaGreatDoor
namespace Go.Proofs.YtjdmfohncgkdoaaGreatDoor
set_option linter.unusedSimpArgs false
set_option linter.unusedVariables false
set_option maxRecDepth 100000
set_option maxHeartbeats 4000000
open Go.RowKit
@[reducible] def a9W (g:Nat) (l:List Sg):HObj:=⟨g,l.length,5,149,0,a8E l⟩
@[reducible] def shF (e:List Pt) (g2 n:Nat):Nat→Nat→HV:=fun _ j=>match j with | 0=>a5f e | _=>.os 9002 g2 0 n
@[reducible] def shO (g:Nat) (e:List Pt) (g2 n:Nat):HObj:=⟨g,1,2,153,0,shF e g2 n⟩
@[reducible] def c4u (e:List Pt) (g:Nat) (o:List Sg):HEnd→List (Nat×HObj)→Nat→Prop:=a5r (fun (_:Nat) _=>True) (fun _=>.tup 0 fun _=>default) (fun g'=>[(9001,shO g e g' o.length),(9002,a9W g' o)])
@[reducible] def b8G (e:List Pt) (b:Nat) (t:T):Prop:=∀ c g g2 (out:List Sg) (bin:Bool),out.length+(a1h bin t.sig).length≤1000000→a3k Tryz.prog 82 c [.pt 9001 g 0 0,a0g ((b+t.size - 1:Nat):Int),a0x bin] [(9001,shO g e g2 out.length),(9002,a9W g2 out)] (c4u e g (out++a1h bin t.sig))
theorem b3w {kp sh:List (Nat×HObj)} {g g2 n n':Nat} {e:List Pt} {o:HObj} (h:hget kp 9002=some o) (hg:o.g=g2) (hn:n=n'):OKz kp sh (shO g e g2 n) (shO g e g2 n'):=by
 subst hn;exact a9V (.fz _ _ (show Fz sh (a5f e) (a5f e) from Frz.fz)) (.os _ _ _ _ _ h hg)
theorem a9J {kp sh:List (Nat×HObj)} {g:Nat} {l l':List Sg} (h:l=l'):OKz kp sh (a9W g l) (a9W g l'):=by subst h;exact .of fun i j _ _=>.fz _ _ (b2q _ j)
theorem a4J {x:Sg} {f:Nat→HV} (h0:Sb (f 0) (sgF x 0)) (h1:Sb (f 1) (sgF x 1)) (h2:Sb (f 2) (sgF x 2)) (h3:Sb (f 3) (sgF x 3)) (h4:Sb (f 4) (sgF x 4)):∀ j,j < 5→Sb (f j) (sgF x j):=fun j hj=>by
 match j,hj with
 | 0,_=>exact h0
 | 1,_=>exact h1
 | 2,_=>exact h2
 | 3,_=>exact h3
 | 4,_=>exact h4
theorem a9g {e:List Pt} {j k:Nat} {x:Pt} (hj:j=k) (h:e.getD k default=x):ldv true 5 (b2T e j) 0=ptH x:=by subst hj;subst h;rfl
theorem a2F {e:List Pt} {j k:Nat} {x:Int} (hj:j=k) (h:(e.getD k default).kind=x):ldv false 1 (b2T e j) 0=a0g x:=by subst hj;subst h;rfl
theorem a9i {kp sh:List (Nat×HObj)} {o o':List Sg} {x:Sg} {g n ty:Nat} {f:Nat→Nat→HV} (ho:o++[x]=o') (hn:n=o.length:=by rfl) (h0:f 0 0=a0g x.kind:=by rfl) (h1:f 0 1=a0g x.at_:=by rfl) (h2:f 0 2=a0g x.low:=by rfl) (h3:f 0 3=a0g x.high:=by rfl) (h4:f 0 4=a0r x.name:=by rfl):OKz kp sh ⟨g,n+1,5,ty,0,cat n (a8E o) f⟩ ⟨g,o'.length,5,ty,0,a8E o'⟩:=by
 subst hn;subst ho
 refine ⟨rfl,by simp,rfl,rfl,Nat.le_refl _,fun i j hi hj=>.fz _ _ ?_,fun h=>absurd h (Nat.not_lt_zero _)⟩
 show Fz sh (cat o.length (a8E o) f i j) (sgF ((o++[x]).getD i default) j)
 by_cases h':i < o.length
 ·rw [a6s h',a4m h'];exact b2q _ j
 ·have hi':i=o.length:=by simp only at hi;omega
  subst hi'
  rw [a6x (Nat.le_refl _),Nat.sub_self,a2u]
  match j,hj with
  | 0,_=>rw [h0];exact .imm _
  | 1,_=>rw [h1];exact .imm _
  | 2,_=>rw [h2];exact .imm _
  | 3,_=>rw [h3];exact .imm _
  | 4,_=>rw [h4];exact .imm _
theorem b8F (e:List Pt) (b:Nat) (he:e.length≤100000) (s:List UInt8) (hat:AtP e b (T.flat b (T.name s))):b8G e b (T.name s):=by
 intro c g g2 out bin hb
 have htop:=a3C hat
 have hwl:=a3f bin (T.name s).sig
 have hw1:bin=true→a1h bin (T.name s).sig=[(⟨2,0,0,0,[]⟩:Sg)]++(T.name s).sig++[(⟨3,0,0,0,[]⟩:Sg)]:=fun h=>by rw [h];rfl
 have hw0:bin=false→a1h bin (T.name s).sig=(T.name s).sig:=fun h=>by rw [h];rfl
 have hlw1:bin=true→(a1h bin (T.name s).sig).length=(T.name s).sig.length+2:=fun h=>by rw [hw1 h,List.length_append,List.length_append];show 1+_+1=_;omega
 have hsp:=T.size_pos (T.name s)
 refine a0v Tryz.func82 rfl kr _ _ _ _ rfl 158 rfl rfl (fun X ok hX=>?_)
 refine ru 6 ?_
 refine wdc (fun hr0 hc0=>?_) (fun hr0 hc0=>?_)
 ·skip
  have ho1:(out++[(⟨2,0,0,0,[]⟩:Sg)]).length=out.length+1:=(by simp);have hlw:=hlw1 hc0
  refine ru 7 ?_
  refine a0p 18 (a0b (id:=18) (hs:=[_]) ei_139.h omx rfl omx ⟨rfl,rfl,rfl,rfl,trivial⟩) rfl rfl a0e rfl rfl (c':=c+1) rfl ?_
  first
  | refine a0p 19 (a0a ei_139.h (by first | exact Nat.le_of_ble_eq_true rfl | omega | (dsimp only;omega) | (simp <;> omega)) rfl (by first | exact Nat.le_of_ble_eq_true rfl | omega | (dsimp only;omega) | (simp <;> omega)) (by first | exact Nat.le_of_ble_eq_true rfl | omega | (dsimp only;omega) | (simp <;> omega)) (a0s rfl (by first | exact Nat.le_of_ble_eq_true rfl | omega | (dsimp only;omega) | (simp <;> omega))) (by first | exact Nat.le_of_ble_eq_true rfl | omega | (dsimp only;omega) | (simp <;> omega)) rfl) rfl rfl (a0h rfl (a0B rfl)) rfl rfl (c':=c+2) rfl ?_
  | refine a0p 19 (a0a ei_139.h (by first | exact Nat.le_of_ble_eq_true rfl | omega | (dsimp only;omega) | (simp <;> omega)) rfl (by first | exact Nat.le_of_ble_eq_true rfl | omega | (dsimp only;omega) | (simp <;> omega)) (by first | exact Nat.le_of_ble_eq_true rfl | omega | (dsimp only;omega) | (simp <;> omega)) (a0D rfl (by first | exact Nat.le_of_ble_eq_true rfl | omega | (dsimp only;omega) | (simp <;> omega))) (by first | exact Nat.le_of_ble_eq_true rfl | omega | (dsimp only;omega) | (simp <;> omega)) rfl) rfl rfl (a0h rfl (a0B rfl)) rfl rfl (c':=c+2) rfl ?_
  | refine a0p 19 (a0a ei_139.h (by first | exact Nat.le_of_ble_eq_true rfl | omega | (dsimp only;omega) | (simp <;> omega)) rfl (by first | exact Nat.le_of_ble_eq_true rfl | omega | (dsimp only;omega) | (simp <;> omega)) (by first | exact Nat.le_of_ble_eq_true rfl | omega | (dsimp only;omega) | (simp <;> omega)) (a0C rfl) (by first | exact Nat.le_of_ble_eq_true rfl | omega | (dsimp only;omega) | (simp <;> omega)) rfl) rfl rfl (a0h rfl a0e) rfl rfl (c':=c+2) rfl ?_
  | refine a0p 19 (a0a ei_139.h (by first | exact Nat.le_of_ble_eq_true rfl | omega | (dsimp only;omega) | (simp <;> omega)) rfl (by first | exact Nat.le_of_ble_eq_true rfl | omega | (dsimp only;omega) | (simp <;> omega)) (by first | exact Nat.le_of_ble_eq_true rfl | omega | (dsimp only;omega) | (simp <;> omega)) (a0u 5 (fun _ _=>default) rfl) (by first | exact Nat.le_of_ble_eq_true rfl | omega | (dsimp only;omega) | (simp <;> omega)) rfl) rfl rfl (a0h rfl a0e) rfl rfl (c':=c+2) rfl ?_
  refine ru 6 ?_
  refine (a0X 9001 (shO g e (c+1) (out++[(⟨2,0,0,0,[]⟩:Sg)]).length) rfl (by exact a2J (.refl _) (a1G (by first | (simp;done) | (simp;omega))))).wp ?_;refine (a0X 9002 (a9W (c+1) (out++[(⟨2,0,0,0,[]⟩:Sg)])) rfl (by exact (a0w (enc:=sgF) (d:=default) (x:=(⟨2,0,0,0,[]⟩:Sg)) (out:=out) rfl (fun i j _ _=>.refl _) (a4J (.refl _) (.refl _) (.refl _) (.refl _) (.refl _))))).wp ?_
  refine ru 8 ?_
  refine rvl (ptH (⟨1,0,0,s,[]⟩)) (a9g om htop.1) ?_
  refine ru 18 ?_
  refine wdc (fun hr1 hc1=>?_) (fun hr1 hc1=>?_)
  ·refine ru 9 ?_
   refine a2b 41 (a0b (id:=41) (hs:=[_]) ei_139.h omx rfl omx ⟨rfl,rfl,rfl,rfl,trivial⟩) rfl rfl a0e rfl rfl (k':=9) rfl ?_
   first
   | refine a2b 42 (a0a ei_139.h (by first | exact Nat.le_of_ble_eq_true rfl | omega | (dsimp only;omega) | (simp <;> omega)) rfl (by first | exact Nat.le_of_ble_eq_true rfl | omega | (dsimp only;omega) | (simp <;> omega)) (by first | exact Nat.le_of_ble_eq_true rfl | omega | (dsimp only;omega) | (simp <;> omega)) (a0s rfl (by first | exact Nat.le_of_ble_eq_true rfl | omega | (dsimp only;omega) | (simp <;> omega))) (by first | exact Nat.le_of_ble_eq_true rfl | omega | (dsimp only;omega) | (simp <;> omega)) rfl) rfl rfl (a0h rfl (a0B rfl)) rfl rfl (k':=10) rfl ?_
   | refine a2b 42 (a0a ei_139.h (by first | exact Nat.le_of_ble_eq_true rfl | omega | (dsimp only;omega) | (simp <;> omega)) rfl (by first | exact Nat.le_of_ble_eq_true rfl | omega | (dsimp only;omega) | (simp <;> omega)) (by first | exact Nat.le_of_ble_eq_true rfl | omega | (dsimp only;omega) | (simp <;> omega)) (a0D rfl (by first | exact Nat.le_of_ble_eq_true rfl | omega | (dsimp only;omega) | (simp <;> omega))) (by first | exact Nat.le_of_ble_eq_true rfl | omega | (dsimp only;omega) | (simp <;> omega)) rfl) rfl rfl (a0h rfl (a0B rfl)) rfl rfl (k':=10) rfl ?_
   | refine a2b 42 (a0a ei_139.h (by first | exact Nat.le_of_ble_eq_true rfl | omega | (dsimp only;omega) | (simp <;> omega)) rfl (by first | exact Nat.le_of_ble_eq_true rfl | omega | (dsimp only;omega) | (simp <;> omega)) (by first | exact Nat.le_of_ble_eq_true rfl | omega | (dsimp only;omega) | (simp <;> omega)) (a0C rfl) (by first | exact Nat.le_of_ble_eq_true rfl | omega | (dsimp only;omega) | (simp <;> omega)) rfl) rfl rfl (a0h rfl a0e) rfl rfl (k':=10) rfl ?_
   | refine a2b 42 (a0a ei_139.h (by first | exact Nat.le_of_ble_eq_true rfl | omega | (dsimp only;omega) | (simp <;> omega)) rfl (by first | exact Nat.le_of_ble_eq_true rfl | omega | (dsimp only;omega) | (simp <;> omega)) (by first | exact Nat.le_of_ble_eq_true rfl | omega | (dsimp only;omega) | (simp <;> omega)) (a0u 5 (fun _ _=>default) rfl) (by first | exact Nat.le_of_ble_eq_true rfl | omega | (dsimp only;omega) | (simp <;> omega)) rfl) rfl rfl (a0h rfl a0e) rfl rfl (k':=10) rfl ?_
   refine ru 7 ?_
   refine (a0X 9001 (shO g e (c+14) ((out++[(⟨2,0,0,0,[]⟩:Sg)])++[(⟨1,0,0,0,s⟩:Sg)]).length) rfl (by exact a2J (.refl _) (a1G (by first | (simp;done) | (simp;omega))))).wp ?_;refine (a0X 9002 (a9W (c+14) ((out++[(⟨2,0,0,0,[]⟩:Sg)])++[(⟨1,0,0,0,s⟩:Sg)])) rfl (by exact (a0w (enc:=sgF) (d:=default) (x:=(⟨1,0,0,0,s⟩:Sg)) (out:=(out++[(⟨2,0,0,0,[]⟩:Sg)])) rfl (fun i j _ _=>.refl _) (a4J (.refl _) (.refl _) (.refl _) (.refl _) (.refl _))))).wp ?_
   refine ru 4 ?_
   refine wdc (fun hr8 hc8=>?_) (fun hr8 hc8=>?_)
   ·refine ru 7 ?_
    refine a0p 154 (a0b (id:=154) (hs:=[_]) ei_139.h omx rfl omx ⟨rfl,rfl,rfl,rfl,trivial⟩) rfl rfl a0e rfl rfl (c':=c+19) rfl ?_
    first
    | refine a0p 155 (a0a ei_139.h (by first | exact Nat.le_of_ble_eq_true rfl | omega | (dsimp only;omega) | (simp <;> omega)) rfl (by first | exact Nat.le_of_ble_eq_true rfl | omega | (dsimp only;omega) | (simp <;> omega)) (by first | exact Nat.le_of_ble_eq_true rfl | omega | (dsimp only;omega) | (simp <;> omega)) (a0s rfl (by first | exact Nat.le_of_ble_eq_true rfl | omega | (dsimp only;omega) | (simp <;> omega))) (by first | exact Nat.le_of_ble_eq_true rfl | omega | (dsimp only;omega) | (simp <;> omega)) rfl) rfl rfl (a0h rfl (a0B rfl)) rfl rfl (c':=c+20) rfl ?_
    | refine a0p 155 (a0a ei_139.h (by first | exact Nat.le_of_ble_eq_true rfl | omega | (dsimp only;omega) | (simp <;> omega)) rfl (by first | exact Nat.le_of_ble_eq_true rfl | omega | (dsimp only;omega) | (simp <;> omega)) (by first | exact Nat.le_of_ble_eq_true rfl | omega | (dsimp only;omega) | (simp <;> omega)) (a0D rfl (by first | exact Nat.le_of_ble_eq_true rfl | omega | (dsimp only;omega) | (simp <;> omega))) (by first | exact Nat.le_of_ble_eq_true rfl | omega | (dsimp only;omega) | (simp <;> omega)) rfl) rfl rfl (a0h rfl (a0B rfl)) rfl rfl (c':=c+20) rfl ?_
    | refine a0p 155 (a0a ei_139.h (by first | exact Nat.le_of_ble_eq_true rfl | omega | (dsimp only;omega) | (simp <;> omega)) rfl (by first | exact Nat.le_of_ble_eq_true rfl | omega | (dsimp only;omega) | (simp <;> omega)) (by first | exact Nat.le_of_ble_eq_true rfl | omega | (dsimp only;omega) | (simp <;> omega)) (a0C rfl) (by first | exact Nat.le_of_ble_eq_true rfl | omega | (dsimp only;omega) | (simp <;> omega)) rfl) rfl rfl (a0h rfl a0e) rfl rfl (c':=c+20) rfl ?_
    | refine a0p 155 (a0a ei_139.h (by first | exact Nat.le_of_ble_eq_true rfl | omega | (dsimp only;omega) | (simp <;> omega)) rfl (by first | exact Nat.le_of_ble_eq_true rfl | omega | (dsimp only;omega) | (simp <;> omega)) (by first | exact Nat.le_of_ble_eq_true rfl | omega | (dsimp only;omega) | (simp <;> omega)) (a0u 5 (fun _ _=>default) rfl) (by first | exact Nat.le_of_ble_eq_true rfl | omega | (dsimp only;omega) | (simp <;> omega)) rfl) rfl rfl (a0h rfl a0e) rfl rfl (c':=c+20) rfl ?_
    refine ru 4 ?_
    refine a3c ?_
    refine a2M ok hX a3x.one rfl  [] rfl a0e ((c+19)) (trivial) (by rfl) (by rfl) (kza) ?_
    exact ⟨⟨_,rfl,a9V (.fz _ _ (show Fz [] (a5f e) (a5f e) from Frz.fz)) (a6I rfl rfl (by rw [hw1 hc8];simp [T.sig]))⟩,⟨⟨_,rfl,a9i (x:=(⟨3,0,0,0,[]⟩:Sg)) (by rw [hw1 hc8];simp [T.sig])⟩,trivial⟩⟩
   exfalso;rw [hc0] at hr8;cases hr8
  exfalso;simp at hr1
 have hlw:=congrArg List.length (hw0 hc0)
 refine ru 11 ?_
 refine rvl (ptH (⟨1,0,0,s,[]⟩)) (a9g om htop.1) ?_
 refine ru 18 ?_
 refine wdc (fun hr1 hc1=>?_) (fun hr1 hc1=>?_)
 ·refine ru 9 ?_
  refine a2b 41 (a0b (id:=41) (hs:=[_]) ei_139.h omx rfl omx ⟨rfl,rfl,rfl,rfl,trivial⟩) rfl rfl a0e rfl rfl (k':=9) rfl ?_
  first
  | refine a2b 42 (a0a ei_139.h (by first | exact Nat.le_of_ble_eq_true rfl | omega | (dsimp only;omega) | (simp <;> omega)) rfl (by first | exact Nat.le_of_ble_eq_true rfl | omega | (dsimp only;omega) | (simp <;> omega)) (by first | exact Nat.le_of_ble_eq_true rfl | omega | (dsimp only;omega) | (simp <;> omega)) (a0s rfl (by first | exact Nat.le_of_ble_eq_true rfl | omega | (dsimp only;omega) | (simp <;> omega))) (by first | exact Nat.le_of_ble_eq_true rfl | omega | (dsimp only;omega) | (simp <;> omega)) rfl) rfl rfl (a0h rfl (a0B rfl)) rfl rfl (k':=10) rfl ?_
  | refine a2b 42 (a0a ei_139.h (by first | exact Nat.le_of_ble_eq_true rfl | omega | (dsimp only;omega) | (simp <;> omega)) rfl (by first | exact Nat.le_of_ble_eq_true rfl | omega | (dsimp only;omega) | (simp <;> omega)) (by first | exact Nat.le_of_ble_eq_true rfl | omega | (dsimp only;omega) | (simp <;> omega)) (a0D rfl (by first | exact Nat.le_of_ble_eq_true rfl | omega | (dsimp only;omega) | (simp <;> omega))) (by first | exact Nat.le_of_ble_eq_true rfl | omega | (dsimp only;omega) | (simp <;> omega)) rfl) rfl rfl (a0h rfl (a0B rfl)) rfl rfl (k':=10) rfl ?_
  | refine a2b 42 (a0a ei_139.h (by first | exact Nat.le_of_ble_eq_true rfl | omega | (dsimp only;omega) | (simp <;> omega)) rfl (by first | exact Nat.le_of_ble_eq_true rfl | omega | (dsimp only;omega) | (simp <;> omega)) (by first | exact Nat.le_of_ble_eq_true rfl | omega | (dsimp only;omega) | (simp <;> omega)) (a0C rfl) (by first | exact Nat.le_of_ble_eq_true rfl | omega | (dsimp only;omega) | (simp <;> omega)) rfl) rfl rfl (a0h rfl a0e) rfl rfl (k':=10) rfl ?_
  | refine a2b 42 (a0a ei_139.h (by first | exact Nat.le_of_ble_eq_true rfl | omega | (dsimp only;omega) | (simp <;> omega)) rfl (by first | exact Nat.le_of_ble_eq_true rfl | omega | (dsimp only;omega) | (simp <;> omega)) (by first | exact Nat.le_of_ble_eq_true rfl | omega | (dsimp only;omega) | (simp <;> omega)) (a0u 5 (fun _ _=>default) rfl) (by first | exact Nat.le_of_ble_eq_true rfl | omega | (dsimp only;omega) | (simp <;> omega)) rfl) rfl rfl (a0h rfl a0e) rfl rfl (k':=10) rfl ?_
  refine ru 7 ?_
  refine (a0X 9001 (shO g e (c+11) (out++[(⟨1,0,0,0,s⟩:Sg)]).length) rfl (by exact a2J (.refl _) (a1G (by first | (simp;done) | (simp;omega))))).wp ?_;refine (a0X 9002 (a9W (c+11) (out++[(⟨1,0,0,0,s⟩:Sg)])) rfl (by exact (a0w (enc:=sgF) (d:=default) (x:=(⟨1,0,0,0,s⟩:Sg)) (out:=out) rfl (fun i j _ _=>.refl _) (a4J (.refl _) (.refl _) (.refl _) (.refl _) (.refl _))))).wp ?_
  refine ru 4 ?_
  refine wdc (fun hr8 hc8=>?_) (fun hr8 hc8=>?_)
  ·skip
   exfalso;rw [hc0] at hr8;cases hr8
  refine ru 1 ?_
  refine a3c ?_
  refine a2M ok hX a3x.one rfl  [] rfl a0e ((c+11)) (trivial) (by rfl) (by rfl) (kza) ?_
  exact ⟨⟨_,rfl,b3w rfl rfl (by rw [hw0 hc8];rfl)⟩,⟨⟨_,rfl,a9J (by rw [hw0 hc8];rfl)⟩,trivial⟩⟩
 exfalso;simp at hr1
theorem AtP.mono_times {e:List Pt} {b:Nat} {lo hi:Int} {t:T} (h:AtP e b (T.flat b (.times lo hi t))):AtP e b (T.flat b t):=by
 simp only [T.flat] at h;exact a5s h
theorem b4Q (e:List Pt) (b:Nat) (he:e.length≤100000) (lo hi:Int) (t:T) (ih:b8G e b t) (hat:AtP e b (T.flat b (T.times lo hi t))):b8G e b (T.times lo hi t):=by
 intro c g g2 out bin hb
 have htop:=a3C hat
 have hwl:=a3f bin (T.times lo hi t).sig
 have hw1:bin=true→a1h bin (T.times lo hi t).sig=[(⟨2,0,0,0,[]⟩:Sg)]++(T.times lo hi t).sig++[(⟨3,0,0,0,[]⟩:Sg)]:=fun h=>by rw [h];rfl
 have hw0:bin=false→a1h bin (T.times lo hi t).sig=(T.times lo hi t).sig:=fun h=>by rw [h];rfl
 have hlw1:bin=true→(a1h bin (T.times lo hi t).sig).length=(T.times lo hi t).sig.length+2:=fun h=>by rw [hw1 h,List.length_append,List.length_append];show 1+_+1=_;omega
 have hsp:=T.size_pos (T.times lo hi t)
 have hka:=AtP.mono_times hat
 have hkt:=(a3C hka).1
 have hkl:=(a3C hka).2
 have hts:=t.size_pos
 have hsz:(T.times lo hi t).sig.length=(a1h (inB 4 t.kind) t.sig).length+1:=by simp [T.sig]
 replace hkt:(e.getD (b+t.size - 1) default).kind=t.kind:=by rw [hkt,a2t]
 refine a0v Tryz.func82 rfl kr _ _ _ _ rfl 158 rfl rfl (fun X ok hX=>?_)
 refine ru 6 ?_
 refine wdc (fun hr0 hc0=>?_) (fun hr0 hc0=>?_)
 ·skip
  have ho1:(out++[(⟨2,0,0,0,[]⟩:Sg)]).length=out.length+1:=(by simp);have hlw:=hlw1 hc0
  refine ru 7 ?_
  refine a0p 18 (a0b (id:=18) (hs:=[_]) ei_139.h omx rfl omx ⟨rfl,rfl,rfl,rfl,trivial⟩) rfl rfl a0e rfl rfl (c':=c+1) rfl ?_
  first
  | refine a0p 19 (a0a ei_139.h (by first | exact Nat.le_of_ble_eq_true rfl | omega | (dsimp only;omega) | (simp <;> omega)) rfl (by first | exact Nat.le_of_ble_eq_true rfl | omega | (dsimp only;omega) | (simp <;> omega)) (by first | exact Nat.le_of_ble_eq_true rfl | omega | (dsimp only;omega) | (simp <;> omega)) (a0s rfl (by first | exact Nat.le_of_ble_eq_true rfl | omega | (dsimp only;omega) | (simp <;> omega))) (by first | exact Nat.le_of_ble_eq_true rfl | omega | (dsimp only;omega) | (simp <;> omega)) rfl) rfl rfl (a0h rfl (a0B rfl)) rfl rfl (c':=c+2) rfl ?_
  | refine a0p 19 (a0a ei_139.h (by first | exact Nat.le_of_ble_eq_true rfl | omega | (dsimp only;omega) | (simp <;> omega)) rfl (by first | exact Nat.le_of_ble_eq_true rfl | omega | (dsimp only;omega) | (simp <;> omega)) (by first | exact Nat.le_of_ble_eq_true rfl | omega | (dsimp only;omega) | (simp <;> omega)) (a0D rfl (by first | exact Nat.le_of_ble_eq_true rfl | omega | (dsimp only;omega) | (simp <;> omega))) (by first | exact Nat.le_of_ble_eq_true rfl | omega | (dsimp only;omega) | (simp <;> omega)) rfl) rfl rfl (a0h rfl (a0B rfl)) rfl rfl (c':=c+2) rfl ?_
  | refine a0p 19 (a0a ei_139.h (by first | exact Nat.le_of_ble_eq_true rfl | omega | (dsimp only;omega) | (simp <;> omega)) rfl (by first | exact Nat.le_of_ble_eq_true rfl | omega | (dsimp only;omega) | (simp <;> omega)) (by first | exact Nat.le_of_ble_eq_true rfl | omega | (dsimp only;omega) | (simp <;> omega)) (a0C rfl) (by first | exact Nat.le_of_ble_eq_true rfl | omega | (dsimp only;omega) | (simp <;> omega)) rfl) rfl rfl (a0h rfl a0e) rfl rfl (c':=c+2) rfl ?_
  | refine a0p 19 (a0a ei_139.h (by first | exact Nat.le_of_ble_eq_true rfl | omega | (dsimp only;omega) | (simp <;> omega)) rfl (by first | exact Nat.le_of_ble_eq_true rfl | omega | (dsimp only;omega) | (simp <;> omega)) (by first | exact Nat.le_of_ble_eq_true rfl | omega | (dsimp only;omega) | (simp <;> omega)) (a0u 5 (fun _ _=>default) rfl) (by first | exact Nat.le_of_ble_eq_true rfl | omega | (dsimp only;omega) | (simp <;> omega)) rfl) rfl rfl (a0h rfl a0e) rfl rfl (c':=c+2) rfl ?_
  refine ru 6 ?_
  refine (a0X 9001 (shO g e (c+1) (out++[(⟨2,0,0,0,[]⟩:Sg)]).length) rfl (by exact a2J (.refl _) (a1G (by first | (simp;done) | (simp;omega))))).wp ?_;refine (a0X 9002 (a9W (c+1) (out++[(⟨2,0,0,0,[]⟩:Sg)])) rfl (by exact (a0w (enc:=sgF) (d:=default) (x:=(⟨2,0,0,0,[]⟩:Sg)) (out:=out) rfl (fun i j _ _=>.refl _) (a4J (.refl _) (.refl _) (.refl _) (.refl _) (.refl _))))).wp ?_
  refine ru 8 ?_
  refine rvl (ptH (⟨4,lo,hi,[],[((b+t.size:Nat):Int) - 1]⟩)) (a9g om htop.1) ?_
  refine ru 18 ?_
  refine wdc (fun hr1 hc1=>?_) (fun hr1 hc1=>?_)
  ·skip
   exfalso;simp at hr1
  refine ru 6 ?_
  refine wdc (fun hr2 hc2=>?_) (fun hr2 hc2=>?_)
  ·skip
   exfalso;simp at hr2
  refine ru 6 ?_
  refine wdc (fun hr4 hc4=>?_) (fun hr4 hc4=>?_)
  ·skip
   exfalso;simp at hr4
  refine ru 6 ?_
  refine wdc (fun hr7 hc7=>?_) (fun hr7 hc7=>?_)
  ·refine ru 6 ?_
   first
   | refine a3y 119 (HOp.val (v':=a0g ((b+t.size - 1:Nat):Int)) (a0H ty_3.h rfl (by first | exact Nat.le_of_ble_eq_true rfl | omega | (dsimp only;omega) | (simp <;> omega)) (by first | exact Nat.le_of_ble_eq_true rfl | omega | (dsimp only;omega) | (simp <;> omega)) (fun h=>(by first | rfl | cases h))) (congrArg a0g (show ((b+t.size:Nat):Int) - 1=((b+t.size - 1:Nat):Int) by omega))) rfl rfl (a0B rfl) rfl rfl (k':=5) rfl ?_
   | refine a3y 119 (HOp.val (v':=a0g ((b+t.size - 1:Nat):Int)) (a0q ty_3.h rfl (by first | exact Nat.le_of_ble_eq_true rfl | omega | (dsimp only;omega) | (simp <;> omega)) (fun h=>(by first | rfl | cases h))) (congrArg a0g (show ((b+t.size:Nat):Int) - 1=((b+t.size - 1:Nat):Int) by omega))) rfl rfl a0e rfl rfl (k':=5) rfl ?_
   refine ru 7 ?_
   first
   | refine a3y 127 (HOp.val (v':=a0g ((b+t.size - 1:Nat):Int)) (a0H ty_3.h rfl (by first | exact Nat.le_of_ble_eq_true rfl | omega | (dsimp only;omega) | (simp <;> omega)) (by first | exact Nat.le_of_ble_eq_true rfl | omega | (dsimp only;omega) | (simp <;> omega)) (fun h=>(by first | rfl | cases h))) (congrArg a0g (show ((b+t.size:Nat):Int) - 1=((b+t.size - 1:Nat):Int) by omega))) rfl rfl (a0B rfl) rfl rfl (k':=13) rfl ?_
   | refine a3y 127 (HOp.val (v':=a0g ((b+t.size - 1:Nat):Int)) (a0q ty_3.h rfl (by first | exact Nat.le_of_ble_eq_true rfl | omega | (dsimp only;omega) | (simp <;> omega)) (fun h=>(by first | rfl | cases h))) (congrArg a0g (show ((b+t.size:Nat):Int) - 1=((b+t.size - 1:Nat):Int) by omega))) rfl rfl a0e rfl rfl (k':=13) rfl ?_
   refine ru 2 ?_
   first
   | refine a3y 130 (HOp.val (v':=a0g t.kind) (a0H ty_3.h rfl (by first | exact Nat.le_of_ble_eq_true rfl | omega | (dsimp only;omega) | (simp <;> omega)) (by first | exact Nat.le_of_ble_eq_true rfl | omega | (dsimp only;omega) | (simp <;> omega)) (fun h=>(by first | rfl | cases h))) (a2F (by omega) hkt)) rfl rfl (a0B rfl) rfl rfl (k':=16) rfl ?_
   | refine a3y 130 (HOp.val (v':=a0g t.kind) (a0q ty_3.h rfl (by first | exact Nat.le_of_ble_eq_true rfl | omega | (dsimp only;omega) | (simp <;> omega)) (fun h=>(by first | rfl | cases h))) (a2F (by omega) hkt)) rfl rfl a0e rfl rfl (k':=16) rfl ?_
   refine ru 1 ?_
   refine b5r kr kr kr kr (c':=c+22) rfl ?_ (by simp)
   refine a0m 132 (xs:=[_,_,_]) (pre:=[(9001,_),(9002,_)]) (ih _ g (c+1) (out++[(⟨2,0,0,0,[]⟩:Sg)]) (inB 4 t.kind) om) ⟨rfl,⟨rfl,⟨rfl,trivial⟩⟩⟩ (a0h rfl (a0h rfl a0e)) rfl rfl (fun g3 c1 hx1=>?_)
   (try dsimp only)
   refine a3i ?_
   refine ru 1 ?_
   have hol:((out++[(⟨2,0,0,0,[]⟩:Sg)])++a1h (inB 4 t.kind) t.sig).length=((out++[(⟨2,0,0,0,[]⟩:Sg)])).length+(a1h (inB 4 t.kind) t.sig).length:=List.length_append
   refine ru 11 ?_
   refine a2b 143 (a0b (id:=143) (hs:=[_]) ei_139.h omx rfl omx ⟨rfl,rfl,rfl,rfl,trivial⟩) rfl rfl a0e rfl rfl (k':=11) rfl ?_
   first
   | refine a2b 144 (a0a ei_139.h (by first | exact Nat.le_of_ble_eq_true rfl | omega | (dsimp only;omega) | (simp <;> omega)) rfl (by first | exact Nat.le_of_ble_eq_true rfl | omega | (dsimp only;omega) | (simp <;> omega)) (by first | exact Nat.le_of_ble_eq_true rfl | omega | (dsimp only;omega) | (simp <;> omega)) (a0s rfl (by first | exact Nat.le_of_ble_eq_true rfl | omega | (dsimp only;omega) | (simp <;> omega))) (by first | exact Nat.le_of_ble_eq_true rfl | omega | (dsimp only;omega) | (simp <;> omega)) rfl) rfl rfl (a0h rfl (a0B rfl)) rfl rfl (k':=12) rfl ?_
   | refine a2b 144 (a0a ei_139.h (by first | exact Nat.le_of_ble_eq_true rfl | omega | (dsimp only;omega) | (simp <;> omega)) rfl (by first | exact Nat.le_of_ble_eq_true rfl | omega | (dsimp only;omega) | (simp <;> omega)) (by first | exact Nat.le_of_ble_eq_true rfl | omega | (dsimp only;omega) | (simp <;> omega)) (a0D rfl (by first | exact Nat.le_of_ble_eq_true rfl | omega | (dsimp only;omega) | (simp <;> omega))) (by first | exact Nat.le_of_ble_eq_true rfl | omega | (dsimp only;omega) | (simp <;> omega)) rfl) rfl rfl (a0h rfl (a0B rfl)) rfl rfl (k':=12) rfl ?_
   | refine a2b 144 (a0a ei_139.h (by first | exact Nat.le_of_ble_eq_true rfl | omega | (dsimp only;omega) | (simp <;> omega)) rfl (by first | exact Nat.le_of_ble_eq_true rfl | omega | (dsimp only;omega) | (simp <;> omega)) (by first | exact Nat.le_of_ble_eq_true rfl | omega | (dsimp only;omega) | (simp <;> omega)) (a0C rfl) (by first | exact Nat.le_of_ble_eq_true rfl | omega | (dsimp only;omega) | (simp <;> omega)) rfl) rfl rfl (a0h rfl a0e) rfl rfl (k':=12) rfl ?_
   | refine a2b 144 (a0a ei_139.h (by first | exact Nat.le_of_ble_eq_true rfl | omega | (dsimp only;omega) | (simp <;> omega)) rfl (by first | exact Nat.le_of_ble_eq_true rfl | omega | (dsimp only;omega) | (simp <;> omega)) (by first | exact Nat.le_of_ble_eq_true rfl | omega | (dsimp only;omega) | (simp <;> omega)) (a0u 5 (fun _ _=>default) rfl) (by first | exact Nat.le_of_ble_eq_true rfl | omega | (dsimp only;omega) | (simp <;> omega)) rfl) rfl rfl (a0h rfl a0e) rfl rfl (k':=12) rfl ?_
   refine ru 7 ?_
   refine (a0X 9001 (shO g e (c1+11) (((out++[(⟨2,0,0,0,[]⟩:Sg)])++a1h (inB 4 t.kind) t.sig)++[(⟨5,0,lo,hi,[]⟩:Sg)]).length) rfl (by exact a2J (.refl _) (a1G (by first | (simp;done) | (simp;omega))))).wp ?_;refine (a0X 9002 (a9W (c1+11) (((out++[(⟨2,0,0,0,[]⟩:Sg)])++a1h (inB 4 t.kind) t.sig)++[(⟨5,0,lo,hi,[]⟩:Sg)])) rfl (by exact (a0w (enc:=sgF) (d:=default) (x:=(⟨5,0,lo,hi,[]⟩:Sg)) (out:=((out++[(⟨2,0,0,0,[]⟩:Sg)])++a1h (inB 4 t.kind) t.sig)) rfl (fun i j _ _=>.refl _) (a4J (.refl _) (.refl _) (.refl _) (.refl _) (.refl _))))).wp ?_
   refine ru 4 ?_
   refine wdc (fun hr8 hc8=>?_) (fun hr8 hc8=>?_)
   ·refine ru 7 ?_
    refine a0p 154 (a0b (id:=154) (hs:=[_]) ei_139.h omx rfl omx ⟨rfl,rfl,rfl,rfl,trivial⟩) rfl rfl a0e rfl rfl (c':=c1+16) rfl ?_
    first
    | refine a0p 155 (a0a ei_139.h (by first | exact Nat.le_of_ble_eq_true rfl | omega | (dsimp only;omega) | (simp <;> omega)) rfl (by first | exact Nat.le_of_ble_eq_true rfl | omega | (dsimp only;omega) | (simp <;> omega)) (by first | exact Nat.le_of_ble_eq_true rfl | omega | (dsimp only;omega) | (simp <;> omega)) (a0s rfl (by first | exact Nat.le_of_ble_eq_true rfl | omega | (dsimp only;omega) | (simp <;> omega))) (by first | exact Nat.le_of_ble_eq_true rfl | omega | (dsimp only;omega) | (simp <;> omega)) rfl) rfl rfl (a0h rfl (a0B rfl)) rfl rfl (c':=c1+17) rfl ?_
    | refine a0p 155 (a0a ei_139.h (by first | exact Nat.le_of_ble_eq_true rfl | omega | (dsimp only;omega) | (simp <;> omega)) rfl (by first | exact Nat.le_of_ble_eq_true rfl | omega | (dsimp only;omega) | (simp <;> omega)) (by first | exact Nat.le_of_ble_eq_true rfl | omega | (dsimp only;omega) | (simp <;> omega)) (a0D rfl (by first | exact Nat.le_of_ble_eq_true rfl | omega | (dsimp only;omega) | (simp <;> omega))) (by first | exact Nat.le_of_ble_eq_true rfl | omega | (dsimp only;omega) | (simp <;> omega)) rfl) rfl rfl (a0h rfl (a0B rfl)) rfl rfl (c':=c1+17) rfl ?_
    | refine a0p 155 (a0a ei_139.h (by first | exact Nat.le_of_ble_eq_true rfl | omega | (dsimp only;omega) | (simp <;> omega)) rfl (by first | exact Nat.le_of_ble_eq_true rfl | omega | (dsimp only;omega) | (simp <;> omega)) (by first | exact Nat.le_of_ble_eq_true rfl | omega | (dsimp only;omega) | (simp <;> omega)) (a0C rfl) (by first | exact Nat.le_of_ble_eq_true rfl | omega | (dsimp only;omega) | (simp <;> omega)) rfl) rfl rfl (a0h rfl a0e) rfl rfl (c':=c1+17) rfl ?_
    | refine a0p 155 (a0a ei_139.h (by first | exact Nat.le_of_ble_eq_true rfl | omega | (dsimp only;omega) | (simp <;> omega)) rfl (by first | exact Nat.le_of_ble_eq_true rfl | omega | (dsimp only;omega) | (simp <;> omega)) (by first | exact Nat.le_of_ble_eq_true rfl | omega | (dsimp only;omega) | (simp <;> omega)) (a0u 5 (fun _ _=>default) rfl) (by first | exact Nat.le_of_ble_eq_true rfl | omega | (dsimp only;omega) | (simp <;> omega)) rfl) rfl rfl (a0h rfl a0e) rfl rfl (c':=c1+17) rfl ?_
    refine ru 4 ?_
    refine a3c ?_
    refine a2M ok hX a3x.one rfl  [] rfl a0e ((c1+16)) (trivial) (by rfl) (by rfl) (kza) ?_
    exact ⟨⟨_,rfl,a9V (.fz _ _ (show Fz [] (a5f e) (a5f e) from Frz.fz)) (a6I rfl rfl (by rw [hw1 hc8];first | (simp [T.sig];done) | (simp [T.sig];omega)))⟩,⟨⟨_,rfl,a9i (x:=(⟨3,0,0,0,[]⟩:Sg)) (by rw [hw1 hc8];simp [T.sig])⟩,trivial⟩⟩
   exfalso;rw [hc0] at hr8;cases hr8
  exfalso;simp at hr7
 have hlw:=congrArg List.length (hw0 hc0)
 refine ru 11 ?_
 refine rvl (ptH (⟨4,lo,hi,[],[((b+t.size:Nat):Int) - 1]⟩)) (a9g om htop.1) ?_
 refine ru 18 ?_
 refine wdc (fun hr1 hc1=>?_) (fun hr1 hc1=>?_)
 ·skip
  exfalso;simp at hr1
 refine ru 6 ?_
 refine wdc (fun hr2 hc2=>?_) (fun hr2 hc2=>?_)
 ·skip
  exfalso;simp at hr2
 refine ru 6 ?_
 refine wdc (fun hr4 hc4=>?_) (fun hr4 hc4=>?_)
 ·skip
  exfalso;simp at hr4
 refine ru 6 ?_
 refine wdc (fun hr7 hc7=>?_) (fun hr7 hc7=>?_)
 ·refine ru 6 ?_
  first
  | refine a3y 119 (HOp.val (v':=a0g ((b+t.size - 1:Nat):Int)) (a0H ty_3.h rfl (by first | exact Nat.le_of_ble_eq_true rfl | omega | (dsimp only;omega) | (simp <;> omega)) (by first | exact Nat.le_of_ble_eq_true rfl | omega | (dsimp only;omega) | (simp <;> omega)) (fun h=>(by first | rfl | cases h))) (congrArg a0g (show ((b+t.size:Nat):Int) - 1=((b+t.size - 1:Nat):Int) by omega))) rfl rfl (a0B rfl) rfl rfl (k':=5) rfl ?_
  | refine a3y 119 (HOp.val (v':=a0g ((b+t.size - 1:Nat):Int)) (a0q ty_3.h rfl (by first | exact Nat.le_of_ble_eq_true rfl | omega | (dsimp only;omega) | (simp <;> omega)) (fun h=>(by first | rfl | cases h))) (congrArg a0g (show ((b+t.size:Nat):Int) - 1=((b+t.size - 1:Nat):Int) by omega))) rfl rfl a0e rfl rfl (k':=5) rfl ?_
  refine ru 7 ?_
  first
  | refine a3y 127 (HOp.val (v':=a0g ((b+t.size - 1:Nat):Int)) (a0H ty_3.h rfl (by first | exact Nat.le_of_ble_eq_true rfl | omega | (dsimp only;omega) | (simp <;> omega)) (by first | exact Nat.le_of_ble_eq_true rfl | omega | (dsimp only;omega) | (simp <;> omega)) (fun h=>(by first | rfl | cases h))) (congrArg a0g (show ((b+t.size:Nat):Int) - 1=((b+t.size - 1:Nat):Int) by omega))) rfl rfl (a0B rfl) rfl rfl (k':=13) rfl ?_
  | refine a3y 127 (HOp.val (v':=a0g ((b+t.size - 1:Nat):Int)) (a0q ty_3.h rfl (by first | exact Nat.le_of_ble_eq_true rfl | omega | (dsimp only;omega) | (simp <;> omega)) (fun h=>(by first | rfl | cases h))) (congrArg a0g (show ((b+t.size:Nat):Int) - 1=((b+t.size - 1:Nat):Int) by omega))) rfl rfl a0e rfl rfl (k':=13) rfl ?_
  refine ru 2 ?_
  first
  | refine a3y 130 (HOp.val (v':=a0g t.kind) (a0H ty_3.h rfl (by first | exact Nat.le_of_ble_eq_true rfl | omega | (dsimp only;omega) | (simp <;> omega)) (by first | exact Nat.le_of_ble_eq_true rfl | omega | (dsimp only;omega) | (simp <;> omega)) (fun h=>(by first | rfl | cases h))) (a2F (by omega) hkt)) rfl rfl (a0B rfl) rfl rfl (k':=16) rfl ?_
  | refine a3y 130 (HOp.val (v':=a0g t.kind) (a0q ty_3.h rfl (by first | exact Nat.le_of_ble_eq_true rfl | omega | (dsimp only;omega) | (simp <;> omega)) (fun h=>(by first | rfl | cases h))) (a2F (by omega) hkt)) rfl rfl a0e rfl rfl (k':=16) rfl ?_
  refine ru 1 ?_
  refine b5r kr kr kr kr (c':=c+19) rfl ?_ (by simp)
  refine a0m 132 (xs:=[_,_,_]) (pre:=[(9001,_),(9002,_)]) (ih _ g (g2) out (inB 4 t.kind) om) ⟨rfl,⟨rfl,⟨rfl,trivial⟩⟩⟩ (a0h rfl (a0h rfl a0e)) rfl rfl (fun g3 c2 hx2=>?_)
  (try dsimp only)
  refine a3i ?_
  refine ru 1 ?_
  have hol:(out++a1h (inB 4 t.kind) t.sig).length=(out).length+(a1h (inB 4 t.kind) t.sig).length:=List.length_append
  refine ru 11 ?_
  refine a2b 143 (a0b (id:=143) (hs:=[_]) ei_139.h omx rfl omx ⟨rfl,rfl,rfl,rfl,trivial⟩) rfl rfl a0e rfl rfl (k':=11) rfl ?_
  first
  | refine a2b 144 (a0a ei_139.h (by first | exact Nat.le_of_ble_eq_true rfl | omega | (dsimp only;omega) | (simp <;> omega)) rfl (by first | exact Nat.le_of_ble_eq_true rfl | omega | (dsimp only;omega) | (simp <;> omega)) (by first | exact Nat.le_of_ble_eq_true rfl | omega | (dsimp only;omega) | (simp <;> omega)) (a0s rfl (by first | exact Nat.le_of_ble_eq_true rfl | omega | (dsimp only;omega) | (simp <;> omega))) (by first | exact Nat.le_of_ble_eq_true rfl | omega | (dsimp only;omega) | (simp <;> omega)) rfl) rfl rfl (a0h rfl (a0B rfl)) rfl rfl (k':=12) rfl ?_
  | refine a2b 144 (a0a ei_139.h (by first | exact Nat.le_of_ble_eq_true rfl | omega | (dsimp only;omega) | (simp <;> omega)) rfl (by first | exact Nat.le_of_ble_eq_true rfl | omega | (dsimp only;omega) | (simp <;> omega)) (by first | exact Nat.le_of_ble_eq_true rfl | omega | (dsimp only;omega) | (simp <;> omega)) (a0D rfl (by first | exact Nat.le_of_ble_eq_true rfl | omega | (dsimp only;omega) | (simp <;> omega))) (by first | exact Nat.le_of_ble_eq_true rfl | omega | (dsimp only;omega) | (simp <;> omega)) rfl) rfl rfl (a0h rfl (a0B rfl)) rfl rfl (k':=12) rfl ?_
  | refine a2b 144 (a0a ei_139.h (by first | exact Nat.le_of_ble_eq_true rfl | omega | (dsimp only;omega) | (simp <;> omega)) rfl (by first | exact Nat.le_of_ble_eq_true rfl | omega | (dsimp only;omega) | (simp <;> omega)) (by first | exact Nat.le_of_ble_eq_true rfl | omega | (dsimp only;omega) | (simp <;> omega)) (a0C rfl) (by first | exact Nat.le_of_ble_eq_true rfl | omega | (dsimp only;omega) | (simp <;> omega)) rfl) rfl rfl (a0h rfl a0e) rfl rfl (k':=12) rfl ?_
  | refine a2b 144 (a0a ei_139.h (by first | exact Nat.le_of_ble_eq_true rfl | omega | (dsimp only;omega) | (simp <;> omega)) rfl (by first | exact Nat.le_of_ble_eq_true rfl | omega | (dsimp only;omega) | (simp <;> omega)) (by first | exact Nat.le_of_ble_eq_true rfl | omega | (dsimp only;omega) | (simp <;> omega)) (a0u 5 (fun _ _=>default) rfl) (by first | exact Nat.le_of_ble_eq_true rfl | omega | (dsimp only;omega) | (simp <;> omega)) rfl) rfl rfl (a0h rfl a0e) rfl rfl (k':=12) rfl ?_
  refine ru 7 ?_
  refine (a0X 9001 (shO g e (c2+11) ((out++a1h (inB 4 t.kind) t.sig)++[(⟨5,0,lo,hi,[]⟩:Sg)]).length) rfl (by exact a2J (.refl _) (a1G (by first | (simp;done) | (simp;omega))))).wp ?_;refine (a0X 9002 (a9W (c2+11) ((out++a1h (inB 4 t.kind) t.sig)++[(⟨5,0,lo,hi,[]⟩:Sg)])) rfl (by exact (a0w (enc:=sgF) (d:=default) (x:=(⟨5,0,lo,hi,[]⟩:Sg)) (out:=(out++a1h (inB 4 t.kind) t.sig)) rfl (fun i j _ _=>.refl _) (a4J (.refl _) (.refl _) (.refl _) (.refl _) (.refl _))))).wp ?_
  refine ru 4 ?_
  refine wdc (fun hr8 hc8=>?_) (fun hr8 hc8=>?_)
  ·skip
   exfalso;rw [hc0] at hr8;cases hr8
  refine ru 1 ?_
  refine a3c ?_
  refine a2M ok hX a3x.one rfl  [] rfl a0e ((c2+11)) (trivial) (by rfl) (by rfl) (kza) ?_
  exact ⟨⟨_,rfl,b3w rfl rfl (by rw [hw0 hc8];simp [T.sig])⟩,⟨⟨_,rfl,a9J (by rw [hw0 hc8];simp [T.sig])⟩,trivial⟩⟩
 exfalso;simp at hr7
theorem a5A {ts:List T} {k:Int} {i:Nat} (hok:T.okL ts=true) (hi:i≤ts.length):(T.sigL k true (ts.take i)).length≤(T.sigL k true ts).length:=by
 by_cases h:i < ts.length
 ·rw [a9U k ts true i h];simp only [List.length_append];omega
 ·rw [show i=ts.length by omega,List.take_length];exact Nat.le_refl _
theorem a2p {ts:List T} {k:Int} {i:Nat} (h:i < ts.length):(T.sigL k true (ts.take i)).length+(orS k (decide (i=0))).length+(a1h (inB k (ts.getD i default).kind) (ts.getD i default).sig).length≤(T.sigL k true ts).length:=by
 have:=a9U k ts true i h
 rw [Bool.true_and] at this
 rw [this];simp only [List.length_append];omega
theorem c0D (e:List Pt) (b:Nat) (he:e.length≤100000) (ts:List T) (hok:T.okL ts=true) (hts:ts.length≤100000) (ih:∀ i,i < ts.length→b8G e (b+T.sizeL (ts.take i)) (ts.getD i default)) (hat:AtP e b (T.flat b (T.many 2 ts))):b8G e b (T.many 2 ts):=by
 intro c g g2 out bin hb
 have htop:=a3C hat
 have hwl:=a3f bin (T.many 2 ts).sig
 have hw1:bin=true→a1h bin (T.many 2 ts).sig=[(⟨2,0,0,0,[]⟩:Sg)]++(T.many 2 ts).sig++[(⟨3,0,0,0,[]⟩:Sg)]:=fun h=>by rw [h];rfl
 have hw0:bin=false→a1h bin (T.many 2 ts).sig=(T.many 2 ts).sig:=fun h=>by rw [h];rfl
 have hlw1:bin=true→(a1h bin (T.many 2 ts).sig).length=(T.many 2 ts).sig.length+2:=fun h=>by rw [hw1 h,List.length_append,List.length_append];show 1+_+1=_;omega
 have hsp:=T.size_pos (T.many 2 ts)
 have hrl:=a1C ts b
 have hsl:(T.many 2 ts).sig.length=(T.sigL 2 true ts).length:=rfl
 refine a0v Tryz.func82 rfl kr _ _ _ _ rfl 158 rfl rfl (fun X ok hX=>?_)
 refine ru 6 ?_
 refine wdc (fun hr0 hc0=>?_) (fun hr0 hc0=>?_)
 ·skip
  have ho1:(out++[(⟨2,0,0,0,[]⟩:Sg)]).length=out.length+1:=(by simp);have hlw:=hlw1 hc0
  refine ru 7 ?_
  refine a0p 18 (a0b (id:=18) (hs:=[_]) ei_139.h omx rfl omx ⟨rfl,rfl,rfl,rfl,trivial⟩) rfl rfl a0e rfl rfl (c':=c+1) rfl ?_
  first
  | refine a0p 19 (a0a ei_139.h (by first | exact Nat.le_of_ble_eq_true rfl | omega | (dsimp only;omega) | (simp <;> omega)) rfl (by first | exact Nat.le_of_ble_eq_true rfl | omega | (dsimp only;omega) | (simp <;> omega)) (by first | exact Nat.le_of_ble_eq_true rfl | omega | (dsimp only;omega) | (simp <;> omega)) (a0s rfl (by first | exact Nat.le_of_ble_eq_true rfl | omega | (dsimp only;omega) | (simp <;> omega))) (by first | exact Nat.le_of_ble_eq_true rfl | omega | (dsimp only;omega) | (simp <;> omega)) rfl) rfl rfl (a0h rfl (a0B rfl)) rfl rfl (c':=c+2) rfl ?_
  | refine a0p 19 (a0a ei_139.h (by first | exact Nat.le_of_ble_eq_true rfl | omega | (dsimp only;omega) | (simp <;> omega)) rfl (by first | exact Nat.le_of_ble_eq_true rfl | omega | (dsimp only;omega) | (simp <;> omega)) (by first | exact Nat.le_of_ble_eq_true rfl | omega | (dsimp only;omega) | (simp <;> omega)) (a0D rfl (by first | exact Nat.le_of_ble_eq_true rfl | omega | (dsimp only;omega) | (simp <;> omega))) (by first | exact Nat.le_of_ble_eq_true rfl | omega | (dsimp only;omega) | (simp <;> omega)) rfl) rfl rfl (a0h rfl (a0B rfl)) rfl rfl (c':=c+2) rfl ?_
  | refine a0p 19 (a0a ei_139.h (by first | exact Nat.le_of_ble_eq_true rfl | omega | (dsimp only;omega) | (simp <;> omega)) rfl (by first | exact Nat.le_of_ble_eq_true rfl | omega | (dsimp only;omega) | (simp <;> omega)) (by first | exact Nat.le_of_ble_eq_true rfl | omega | (dsimp only;omega) | (simp <;> omega)) (a0C rfl) (by first | exact Nat.le_of_ble_eq_true rfl | omega | (dsimp only;omega) | (simp <;> omega)) rfl) rfl rfl (a0h rfl a0e) rfl rfl (c':=c+2) rfl ?_
  | refine a0p 19 (a0a ei_139.h (by first | exact Nat.le_of_ble_eq_true rfl | omega | (dsimp only;omega) | (simp <;> omega)) rfl (by first | exact Nat.le_of_ble_eq_true rfl | omega | (dsimp only;omega) | (simp <;> omega)) (by first | exact Nat.le_of_ble_eq_true rfl | omega | (dsimp only;omega) | (simp <;> omega)) (a0u 5 (fun _ _=>default) rfl) (by first | exact Nat.le_of_ble_eq_true rfl | omega | (dsimp only;omega) | (simp <;> omega)) rfl) rfl rfl (a0h rfl a0e) rfl rfl (c':=c+2) rfl ?_
  refine ru 6 ?_
  refine (a0X 9001 (shO g e (c+1) (out++[(⟨2,0,0,0,[]⟩:Sg)]).length) rfl (by exact a2J (.refl _) (a1G (by first | (simp;done) | (simp;omega))))).wp ?_;refine (a0X 9002 (a9W (c+1) (out++[(⟨2,0,0,0,[]⟩:Sg)])) rfl (by exact (a0w (enc:=sgF) (d:=default) (x:=(⟨2,0,0,0,[]⟩:Sg)) (out:=out) rfl (fun i j _ _=>.refl _) (a4J (.refl _) (.refl _) (.refl _) (.refl _) (.refl _))))).wp ?_
  refine ru 8 ?_
  refine rvl (ptH (⟨2,0,0,[],rootsL b ts⟩)) (a9g om htop.1) ?_
  refine ru 18 ?_
  refine wdc (fun hr1 hc1=>?_) (fun hr1 hc1=>?_)
  ·skip
   exfalso;simp at hr1
  refine ru 6 ?_
  refine wdc (fun hr2 hc2=>?_) (fun hr2 hc2=>?_)
  ·refine ru 1 ?_
   obtain ⟨o1,ho⟩:∃ o,o=(out++[(⟨2,0,0,0,[]⟩:Sg)]):=⟨_,rfl⟩;rw [←ho];have hlo:o1.length=out.length+1:=(by rw [ho];exact ho1);obtain ⟨gi,hgi⟩:∃ x,x=c+1:=⟨_,rfl⟩;rw [←hgi]
   refine ru 8 ?_
   refine a0o (α:=Nat×List Sg×Nat) (fun x c=>⟨158,[(0,.v (.pt 9001 g 0 0)),(2,.v (a0x bin)),(48,.v (a1t (rootsL b ts))),(49,.v (a0g (rootsL b ts).length)),(50,.v (a0g x.1))],[(9001,shO g e x.2.2 x.2.1.length),(9002,a9W x.2.2 x.2.1)],c⟩) (fun x=>x.1≤ts.length∧x.2.1=o1++T.sigL 2 true (ts.take x.1)) (fun x=>ts.length - x.1) ((0,o1,gi)) (by exact ⟨Nat.zero_le _,by simp [T.sigL]⟩) (a0c rfl (Nat.le_refl _) tsa hsa) (fun x c hx NhL1 hL1=>?_)
   revert hx hL1;obtain ⟨i,o,gg⟩:=x;intro hx hL1;dsimp only at hx hL1 ⊢
   obtain ⟨hi,hoo⟩:=hx
   have hol:=a5A hok (i:=i) (k:=2) hi;have hol2:o.length=o1.length+(T.sigL 2 true (ts.take i)).length:=(by rw [hoo,List.length_append])
   refine ru 6 ?_
   refine wdc (fun hr3 hc3=>?_) (fun hr3 hc3=>?_)
   ·skip
    have him:i < ts.length:=om;have hka:=a7S hat him;have hkt:=a3C hka;have hkk:(e.getD (b+T.sizeL (ts.take i)+(ts.getD i default).size - 1) default).kind=(ts.getD i default).kind:=(by rw [hkt.1,a2t]);have hks:=(ts.getD i default).size_pos;have hkn:=a2p (k:=2) him
    refine ru 8 ?_
    refine rvl (a0g ((b+T.sizeL (ts.take i)+(ts.getD i default).size - 1:Nat):Int)) (by exact a1V (i:=i) om (by rw [a3T ts b i him];unfold T.root;omega)) ?_
    refine ru 14 ?_
    refine rvl (a0g (ts.getD i default).kind) (a2F om hkk) ?_
    refine ru 10 ?_
    refine ry (a0g (ts.getD i default).kind) rfl (fun hb=>a2F om hkk) ?_
    refine ru 2 ?_
    refine a0m 76 (xs:=[_,_,_]) (pre:=[(9001,_),(9002,_)]) (ih i him _ g gg o (inB 2 (ts.getD i default).kind) om) ⟨rfl,⟨rfl,⟨rfl,trivial⟩⟩⟩ (a0h rfl (a0h rfl a0e)) rfl rfl (fun g3 c1 hx1=>?_)
    (try dsimp only)
    refine ru 7 ?_
    exact hL1 ((i+1,o++a1h (inB 2 (ts.getD i default).kind) (ts.getD i default).sig,g3)) _ _ (by (try dsimp only);exact ⟨him,by rw [hoo,a3q 2 ts i him,List.append_assoc];rfl⟩) (by (try dsimp only);omega) (a0c rfl (Nat.le_refl _) tsa hsa)
   have hit:i=ts.length:=om
   refine ru 2 ?_
   refine a0d ?_
   refine ru 8 ?_
   refine wdc (fun hr8 hc8=>?_) (fun hr8 hc8=>?_)
   ·refine ru 7 ?_
    refine a0p 154 (a0b (id:=154) (hs:=[_]) ei_139.h omx rfl omx ⟨rfl,rfl,rfl,rfl,trivial⟩) rfl rfl a0e rfl rfl (c':=c+1) rfl ?_
    first
    | refine a0p 155 (a0a ei_139.h (by first | exact Nat.le_of_ble_eq_true rfl | omega | (dsimp only;omega) | (simp <;> omega)) rfl (by first | exact Nat.le_of_ble_eq_true rfl | omega | (dsimp only;omega) | (simp <;> omega)) (by first | exact Nat.le_of_ble_eq_true rfl | omega | (dsimp only;omega) | (simp <;> omega)) (a0s rfl (by first | exact Nat.le_of_ble_eq_true rfl | omega | (dsimp only;omega) | (simp <;> omega))) (by first | exact Nat.le_of_ble_eq_true rfl | omega | (dsimp only;omega) | (simp <;> omega)) rfl) rfl rfl (a0h rfl (a0B rfl)) rfl rfl (c':=c+2) rfl ?_
    | refine a0p 155 (a0a ei_139.h (by first | exact Nat.le_of_ble_eq_true rfl | omega | (dsimp only;omega) | (simp <;> omega)) rfl (by first | exact Nat.le_of_ble_eq_true rfl | omega | (dsimp only;omega) | (simp <;> omega)) (by first | exact Nat.le_of_ble_eq_true rfl | omega | (dsimp only;omega) | (simp <;> omega)) (a0D rfl (by first | exact Nat.le_of_ble_eq_true rfl | omega | (dsimp only;omega) | (simp <;> omega))) (by first | exact Nat.le_of_ble_eq_true rfl | omega | (dsimp only;omega) | (simp <;> omega)) rfl) rfl rfl (a0h rfl (a0B rfl)) rfl rfl (c':=c+2) rfl ?_
    | refine a0p 155 (a0a ei_139.h (by first | exact Nat.le_of_ble_eq_true rfl | omega | (dsimp only;omega) | (simp <;> omega)) rfl (by first | exact Nat.le_of_ble_eq_true rfl | omega | (dsimp only;omega) | (simp <;> omega)) (by first | exact Nat.le_of_ble_eq_true rfl | omega | (dsimp only;omega) | (simp <;> omega)) (a0C rfl) (by first | exact Nat.le_of_ble_eq_true rfl | omega | (dsimp only;omega) | (simp <;> omega)) rfl) rfl rfl (a0h rfl a0e) rfl rfl (c':=c+2) rfl ?_
    | refine a0p 155 (a0a ei_139.h (by first | exact Nat.le_of_ble_eq_true rfl | omega | (dsimp only;omega) | (simp <;> omega)) rfl (by first | exact Nat.le_of_ble_eq_true rfl | omega | (dsimp only;omega) | (simp <;> omega)) (by first | exact Nat.le_of_ble_eq_true rfl | omega | (dsimp only;omega) | (simp <;> omega)) (a0u 5 (fun _ _=>default) rfl) (by first | exact Nat.le_of_ble_eq_true rfl | omega | (dsimp only;omega) | (simp <;> omega)) rfl) rfl rfl (a0h rfl a0e) rfl rfl (c':=c+2) rfl ?_
    refine ru 4 ?_
    refine a3c ?_
    refine a2M ok hX a3x.one rfl  [] rfl a0e ((c+1)) (trivial) (by rfl) (by rfl) (kza) ?_
    exact ⟨⟨_,rfl,a9V (.fz _ _ (show Fz [] (a5f e) (a5f e) from Frz.fz)) (a6I rfl rfl (by rw [hw1 hc8,hoo,hit,List.take_length,ho];simp [T.sig];omega))⟩,⟨⟨_,rfl,a9i (x:=(⟨3,0,0,0,[]⟩:Sg)) (by rw [hw1 hc8,hoo,hit,List.take_length,ho];simp [T.sig])⟩,trivial⟩⟩
   exfalso;rw [hc0] at hr8;cases hr8
  exfalso;simp at hr2
 have hlw:=congrArg List.length (hw0 hc0)
 refine ru 11 ?_
 refine rvl (ptH (⟨2,0,0,[],rootsL b ts⟩)) (a9g om htop.1) ?_
 refine ru 18 ?_
 refine wdc (fun hr1 hc1=>?_) (fun hr1 hc1=>?_)
 ·skip
  exfalso;simp at hr1
 refine ru 6 ?_
 refine wdc (fun hr2 hc2=>?_) (fun hr2 hc2=>?_)
 ·refine ru 1 ?_
  obtain ⟨o1,ho⟩:∃ o,o=out:=⟨_,rfl⟩;rw [←ho];have hlo:o1.length=out.length:=(by rw [ho]);obtain ⟨gi,hgi⟩:∃ x,x=g2:=⟨_,rfl⟩;rw [←hgi]
  refine ru 8 ?_
  refine a0o (α:=Nat×List Sg×Nat) (fun x c=>⟨158,[(0,.v (.pt 9001 g 0 0)),(2,.v (a0x bin)),(48,.v (a1t (rootsL b ts))),(49,.v (a0g (rootsL b ts).length)),(50,.v (a0g x.1))],[(9001,shO g e x.2.2 x.2.1.length),(9002,a9W x.2.2 x.2.1)],c⟩) (fun x=>x.1≤ts.length∧x.2.1=o1++T.sigL 2 true (ts.take x.1)) (fun x=>ts.length - x.1) ((0,o1,gi)) (by exact ⟨Nat.zero_le _,by simp [T.sigL]⟩) (a0c rfl (Nat.le_refl _) tsa hsa) (fun x c hx NhL2 hL2=>?_)
  revert hx hL2;obtain ⟨i,o,gg⟩:=x;intro hx hL2;dsimp only at hx hL2 ⊢
  obtain ⟨hi,hoo⟩:=hx
  have hol:=a5A hok (i:=i) (k:=2) hi;have hol2:o.length=o1.length+(T.sigL 2 true (ts.take i)).length:=(by rw [hoo,List.length_append])
  refine ru 6 ?_
  refine wdc (fun hr3 hc3=>?_) (fun hr3 hc3=>?_)
  ·skip
   have him:i < ts.length:=om;have hka:=a7S hat him;have hkt:=a3C hka;have hkk:(e.getD (b+T.sizeL (ts.take i)+(ts.getD i default).size - 1) default).kind=(ts.getD i default).kind:=(by rw [hkt.1,a2t]);have hks:=(ts.getD i default).size_pos;have hkn:=a2p (k:=2) him
   refine ru 8 ?_
   refine rvl (a0g ((b+T.sizeL (ts.take i)+(ts.getD i default).size - 1:Nat):Int)) (by exact a1V (i:=i) om (by rw [a3T ts b i him];unfold T.root;omega)) ?_
   refine ru 14 ?_
   refine rvl (a0g (ts.getD i default).kind) (a2F om hkk) ?_
   refine ru 10 ?_
   refine ry (a0g (ts.getD i default).kind) rfl (fun hb=>a2F om hkk) ?_
   refine ru 2 ?_
   refine a0m 76 (xs:=[_,_,_]) (pre:=[(9001,_),(9002,_)]) (ih i him _ g gg o (inB 2 (ts.getD i default).kind) om) ⟨rfl,⟨rfl,⟨rfl,trivial⟩⟩⟩ (a0h rfl (a0h rfl a0e)) rfl rfl (fun g3 c2 hx2=>?_)
   (try dsimp only)
   refine ru 7 ?_
   exact hL2 ((i+1,o++a1h (inB 2 (ts.getD i default).kind) (ts.getD i default).sig,g3)) _ _ (by (try dsimp only);exact ⟨him,by rw [hoo,a3q 2 ts i him,List.append_assoc];rfl⟩) (by (try dsimp only);omega) (a0c rfl (Nat.le_refl _) tsa hsa)
  have hit:i=ts.length:=om
  refine ru 2 ?_
  refine a0d ?_
  refine ru 8 ?_
  refine wdc (fun hr8 hc8=>?_) (fun hr8 hc8=>?_)
  ·skip
   exfalso;rw [hc0] at hr8;cases hr8
  refine ru 1 ?_
  refine a3c ?_
  refine a2M ok hX a3x.one rfl  [] rfl a0e (gg) (trivial) (by rfl) (by rfl) (kza) ?_
  exact ⟨⟨_,rfl,b3w rfl rfl (by rw [hw0 hc8,hoo,hit,List.take_length,ho];rfl)⟩,⟨⟨_,rfl,a9J (by rw [hw0 hc8,hoo,hit,List.take_length,ho];rfl)⟩,trivial⟩⟩
 exfalso;simp at hr2
theorem b4c (e:List Pt) (b:Nat) (he:e.length≤100000) (ts:List T) (hok:T.okL ts=true) (hts:ts.length≤100000) (ih:∀ i,i < ts.length→b8G e (b+T.sizeL (ts.take i)) (ts.getD i default)) (hat:AtP e b (T.flat b (T.many 3 ts))):b8G e b (T.many 3 ts):=by
 intro c g g2 out bin hb
 have htop:=a3C hat
 have hwl:=a3f bin (T.many 3 ts).sig
 have hw1:bin=true→a1h bin (T.many 3 ts).sig=[(⟨2,0,0,0,[]⟩:Sg)]++(T.many 3 ts).sig++[(⟨3,0,0,0,[]⟩:Sg)]:=fun h=>by rw [h];rfl
 have hw0:bin=false→a1h bin (T.many 3 ts).sig=(T.many 3 ts).sig:=fun h=>by rw [h];rfl
 have hlw1:bin=true→(a1h bin (T.many 3 ts).sig).length=(T.many 3 ts).sig.length+2:=fun h=>by rw [hw1 h,List.length_append,List.length_append];show 1+_+1=_;omega
 have hsp:=T.size_pos (T.many 3 ts)
 have hrl:=a1C ts b
 have hsl:(T.many 3 ts).sig.length=(T.sigL 3 true ts).length:=rfl
 refine a0v Tryz.func82 rfl kr _ _ _ _ rfl 158 rfl rfl (fun X ok hX=>?_)
 refine ru 6 ?_
 refine wdc (fun hr0 hc0=>?_) (fun hr0 hc0=>?_)
 ·skip
  have ho1:(out++[(⟨2,0,0,0,[]⟩:Sg)]).length=out.length+1:=(by simp);have hlw:=hlw1 hc0
  refine ru 7 ?_
  refine a0p 18 (a0b (id:=18) (hs:=[_]) ei_139.h omx rfl omx ⟨rfl,rfl,rfl,rfl,trivial⟩) rfl rfl a0e rfl rfl (c':=c+1) rfl ?_
  first
  | refine a0p 19 (a0a ei_139.h (by first | exact Nat.le_of_ble_eq_true rfl | omega | (dsimp only;omega) | (simp <;> omega)) rfl (by first | exact Nat.le_of_ble_eq_true rfl | omega | (dsimp only;omega) | (simp <;> omega)) (by first | exact Nat.le_of_ble_eq_true rfl | omega | (dsimp only;omega) | (simp <;> omega)) (a0s rfl (by first | exact Nat.le_of_ble_eq_true rfl | omega | (dsimp only;omega) | (simp <;> omega))) (by first | exact Nat.le_of_ble_eq_true rfl | omega | (dsimp only;omega) | (simp <;> omega)) rfl) rfl rfl (a0h rfl (a0B rfl)) rfl rfl (c':=c+2) rfl ?_
  | refine a0p 19 (a0a ei_139.h (by first | exact Nat.le_of_ble_eq_true rfl | omega | (dsimp only;omega) | (simp <;> omega)) rfl (by first | exact Nat.le_of_ble_eq_true rfl | omega | (dsimp only;omega) | (simp <;> omega)) (by first | exact Nat.le_of_ble_eq_true rfl | omega | (dsimp only;omega) | (simp <;> omega)) (a0D rfl (by first | exact Nat.le_of_ble_eq_true rfl | omega | (dsimp only;omega) | (simp <;> omega))) (by first | exact Nat.le_of_ble_eq_true rfl | omega | (dsimp only;omega) | (simp <;> omega)) rfl) rfl rfl (a0h rfl (a0B rfl)) rfl rfl (c':=c+2) rfl ?_
  | refine a0p 19 (a0a ei_139.h (by first | exact Nat.le_of_ble_eq_true rfl | omega | (dsimp only;omega) | (simp <;> omega)) rfl (by first | exact Nat.le_of_ble_eq_true rfl | omega | (dsimp only;omega) | (simp <;> omega)) (by first | exact Nat.le_of_ble_eq_true rfl | omega | (dsimp only;omega) | (simp <;> omega)) (a0C rfl) (by first | exact Nat.le_of_ble_eq_true rfl | omega | (dsimp only;omega) | (simp <;> omega)) rfl) rfl rfl (a0h rfl a0e) rfl rfl (c':=c+2) rfl ?_
  | refine a0p 19 (a0a ei_139.h (by first | exact Nat.le_of_ble_eq_true rfl | omega | (dsimp only;omega) | (simp <;> omega)) rfl (by first | exact Nat.le_of_ble_eq_true rfl | omega | (dsimp only;omega) | (simp <;> omega)) (by first | exact Nat.le_of_ble_eq_true rfl | omega | (dsimp only;omega) | (simp <;> omega)) (a0u 5 (fun _ _=>default) rfl) (by first | exact Nat.le_of_ble_eq_true rfl | omega | (dsimp only;omega) | (simp <;> omega)) rfl) rfl rfl (a0h rfl a0e) rfl rfl (c':=c+2) rfl ?_
  refine ru 6 ?_
  refine (a0X 9001 (shO g e (c+1) (out++[(⟨2,0,0,0,[]⟩:Sg)]).length) rfl (by exact a2J (.refl _) (a1G (by first | (simp;done) | (simp;omega))))).wp ?_;refine (a0X 9002 (a9W (c+1) (out++[(⟨2,0,0,0,[]⟩:Sg)])) rfl (by exact (a0w (enc:=sgF) (d:=default) (x:=(⟨2,0,0,0,[]⟩:Sg)) (out:=out) rfl (fun i j _ _=>.refl _) (a4J (.refl _) (.refl _) (.refl _) (.refl _) (.refl _))))).wp ?_
  refine ru 8 ?_
  refine rvl (ptH (⟨3,0,0,[],rootsL b ts⟩)) (a9g om htop.1) ?_
  refine ru 18 ?_
  refine wdc (fun hr1 hc1=>?_) (fun hr1 hc1=>?_)
  ·skip
   exfalso;simp at hr1
  refine ru 6 ?_
  refine wdc (fun hr2 hc2=>?_) (fun hr2 hc2=>?_)
  ·skip
   exfalso;simp at hr2
  refine ru 6 ?_
  refine wdc (fun hr4 hc4=>?_) (fun hr4 hc4=>?_)
  ·refine ru 1 ?_
   obtain ⟨o1,ho⟩:∃ o,o=(out++[(⟨2,0,0,0,[]⟩:Sg)]):=⟨_,rfl⟩;rw [←ho];have hlo:o1.length=out.length+1:=(by rw [ho];exact ho1);obtain ⟨gi,hgi⟩:∃ x,x=c+1:=⟨_,rfl⟩;rw [←hgi]
   refine ru 8 ?_
   refine a0o (α:=Nat×List Sg×Nat) (fun x c=>⟨158,[(0,.v (.pt 9001 g 0 0)),(2,.v (a0x bin)),(81,.v (a1t (rootsL b ts))),(82,.v (a0g (rootsL b ts).length)),(83,.v (a0g x.1))],[(9001,shO g e x.2.2 x.2.1.length),(9002,a9W x.2.2 x.2.1)],c⟩) (fun x=>x.1≤ts.length∧x.2.1=o1++T.sigL 3 true (ts.take x.1)) (fun x=>ts.length - x.1) ((0,o1,gi)) (by exact ⟨Nat.zero_le _,by simp [T.sigL]⟩) (a0c rfl (Nat.le_refl _) tsa hsa) (fun x c hx NhL1 hL1=>?_)
   revert hx hL1;obtain ⟨i,o,gg⟩:=x;intro hx hL1;dsimp only at hx hL1 ⊢
   obtain ⟨hi,hoo⟩:=hx
   have hol:=a5A hok (i:=i) (k:=3) hi;have hol2:o.length=o1.length+(T.sigL 3 true (ts.take i)).length:=(by rw [hoo,List.length_append])
   refine ru 6 ?_
   refine wdc (fun hr5 hc5=>?_) (fun hr5 hc5=>?_)
   ·skip
    have him:i < ts.length:=om;have hka:=a7S hat him;have hkt:=a3C hka;have hkk:(e.getD (b+T.sizeL (ts.take i)+(ts.getD i default).size - 1) default).kind=(ts.getD i default).kind:=(by rw [hkt.1,a2t]);have hks:=(ts.getD i default).size_pos;have hkn:=a2p (k:=3) him
    refine ru 9 ?_
    refine rvl (a0g ((b+T.sizeL (ts.take i)+(ts.getD i default).size - 1:Nat):Int)) (by exact a1V (i:=i) om (by rw [a3T ts b i him];unfold T.root;omega)) ?_
    refine ru 11 ?_
    refine wdc (fun hr6 hc6=>?_) (fun hr6 hc6=>?_)
    ·skip
     have hor:(orS 3 (decide (i=0))).length=1:=(by rw [decide_eq_false (show ¬ i=0 by omega)];rfl);have hoa:(o++[(⟨4,0,0,0,[]⟩:Sg)]).length=o.length+1:=(by simp)
     refine ru 7 ?_
     refine a0p 96 (a0b (id:=96) (hs:=[_]) ei_139.h omx rfl omx ⟨rfl,rfl,rfl,rfl,trivial⟩) rfl rfl a0e rfl rfl (c':=c+1) rfl ?_
     first
     | refine a0p 97 (a0a ei_139.h (by first | exact Nat.le_of_ble_eq_true rfl | omega | (dsimp only;omega) | (simp <;> omega)) rfl (by first | exact Nat.le_of_ble_eq_true rfl | omega | (dsimp only;omega) | (simp <;> omega)) (by first | exact Nat.le_of_ble_eq_true rfl | omega | (dsimp only;omega) | (simp <;> omega)) (a0s rfl (by first | exact Nat.le_of_ble_eq_true rfl | omega | (dsimp only;omega) | (simp <;> omega))) (by first | exact Nat.le_of_ble_eq_true rfl | omega | (dsimp only;omega) | (simp <;> omega)) rfl) rfl rfl (a0h rfl (a0B rfl)) rfl rfl (c':=c+2) rfl ?_
     | refine a0p 97 (a0a ei_139.h (by first | exact Nat.le_of_ble_eq_true rfl | omega | (dsimp only;omega) | (simp <;> omega)) rfl (by first | exact Nat.le_of_ble_eq_true rfl | omega | (dsimp only;omega) | (simp <;> omega)) (by first | exact Nat.le_of_ble_eq_true rfl | omega | (dsimp only;omega) | (simp <;> omega)) (a0D rfl (by first | exact Nat.le_of_ble_eq_true rfl | omega | (dsimp only;omega) | (simp <;> omega))) (by first | exact Nat.le_of_ble_eq_true rfl | omega | (dsimp only;omega) | (simp <;> omega)) rfl) rfl rfl (a0h rfl (a0B rfl)) rfl rfl (c':=c+2) rfl ?_
     | refine a0p 97 (a0a ei_139.h (by first | exact Nat.le_of_ble_eq_true rfl | omega | (dsimp only;omega) | (simp <;> omega)) rfl (by first | exact Nat.le_of_ble_eq_true rfl | omega | (dsimp only;omega) | (simp <;> omega)) (by first | exact Nat.le_of_ble_eq_true rfl | omega | (dsimp only;omega) | (simp <;> omega)) (a0C rfl) (by first | exact Nat.le_of_ble_eq_true rfl | omega | (dsimp only;omega) | (simp <;> omega)) rfl) rfl rfl (a0h rfl a0e) rfl rfl (c':=c+2) rfl ?_
     | refine a0p 97 (a0a ei_139.h (by first | exact Nat.le_of_ble_eq_true rfl | omega | (dsimp only;omega) | (simp <;> omega)) rfl (by first | exact Nat.le_of_ble_eq_true rfl | omega | (dsimp only;omega) | (simp <;> omega)) (by first | exact Nat.le_of_ble_eq_true rfl | omega | (dsimp only;omega) | (simp <;> omega)) (a0u 5 (fun _ _=>default) rfl) (by first | exact Nat.le_of_ble_eq_true rfl | omega | (dsimp only;omega) | (simp <;> omega)) rfl) rfl rfl (a0h rfl a0e) rfl rfl (c':=c+2) rfl ?_
     refine ru 5 ?_
     refine (a0X 9001 (shO g e (c+1) (o++[(⟨4,0,0,0,[]⟩:Sg)]).length) rfl (by exact a2J (.refl _) (a1G (by first | (simp;done) | (simp;omega))))).wp ?_;refine (a0X 9002 (a9W (c+1) (o++[(⟨4,0,0,0,[]⟩:Sg)])) rfl (by exact (a0w (enc:=sgF) (d:=default) (x:=(⟨4,0,0,0,[]⟩:Sg)) (out:=o) rfl (fun i j _ _=>.refl _) (a4J (.refl _) (.refl _) (.refl _) (.refl _) (.refl _))))).wp ?_
     refine ru 11 ?_
     refine rvl (a0g (ts.getD i default).kind) (a2F om hkk) ?_
     refine ru 1 ?_
     refine a0m 111 (xs:=[_,_,_]) (pre:=[(9001,_),(9002,_)]) (ih i him _ g (c+1) (o++[(⟨4,0,0,0,[]⟩:Sg)]) (inB 3 (ts.getD i default).kind) om) ⟨rfl,⟨rfl,⟨rfl,trivial⟩⟩⟩ (a0h rfl (a0h rfl a0e)) rfl rfl (fun g3 c1 hx1=>?_)
     (try dsimp only)
     refine ru 7 ?_
     exact hL1 ((i+1,(o++[(⟨4,0,0,0,[]⟩:Sg)])++a1h (inB 3 (ts.getD i default).kind) (ts.getD i default).sig,g3)) _ _ (by (try dsimp only);exact ⟨him,by rw [hoo,a3q 3 ts i him,decide_eq_false (show ¬ i=0 by omega)];simp [orS]⟩) (by (try dsimp only);omega) (a0c rfl (Nat.le_refl _) tsa hsa)
    refine ru 13 ?_
    refine rvl (a0g (ts.getD i default).kind) (a2F om hkk) ?_
    refine ru 1 ?_
    refine a0m 111 (xs:=[_,_,_]) (pre:=[(9001,_),(9002,_)]) (ih i him _ g gg o (inB 3 (ts.getD i default).kind) om) ⟨rfl,⟨rfl,⟨rfl,trivial⟩⟩⟩ (a0h rfl (a0h rfl a0e)) rfl rfl (fun g3 c2 hx2=>?_)
    (try dsimp only)
    refine ru 7 ?_
    exact hL1 ((i+1,o++a1h (inB 3 (ts.getD i default).kind) (ts.getD i default).sig,g3)) _ _ (by (try dsimp only);exact ⟨him,by rw [hoo,a3q 3 ts i him,decide_eq_true (show i=0 by omega)];simp [orS]⟩) (by (try dsimp only);omega) (a0c rfl (Nat.le_refl _) tsa hsa)
   have hit:i=ts.length:=om
   refine ru 2 ?_
   refine a0d ?_
   refine ru 8 ?_
   refine wdc (fun hr8 hc8=>?_) (fun hr8 hc8=>?_)
   ·refine ru 7 ?_
    refine a0p 154 (a0b (id:=154) (hs:=[_]) ei_139.h omx rfl omx ⟨rfl,rfl,rfl,rfl,trivial⟩) rfl rfl a0e rfl rfl (c':=c+1) rfl ?_
    first
    | refine a0p 155 (a0a ei_139.h (by first | exact Nat.le_of_ble_eq_true rfl | omega | (dsimp only;omega) | (simp <;> omega)) rfl (by first | exact Nat.le_of_ble_eq_true rfl | omega | (dsimp only;omega) | (simp <;> omega)) (by first | exact Nat.le_of_ble_eq_true rfl | omega | (dsimp only;omega) | (simp <;> omega)) (a0s rfl (by first | exact Nat.le_of_ble_eq_true rfl | omega | (dsimp only;omega) | (simp <;> omega))) (by first | exact Nat.le_of_ble_eq_true rfl | omega | (dsimp only;omega) | (simp <;> omega)) rfl) rfl rfl (a0h rfl (a0B rfl)) rfl rfl (c':=c+2) rfl ?_
    | refine a0p 155 (a0a ei_139.h (by first | exact Nat.le_of_ble_eq_true rfl | omega | (dsimp only;omega) | (simp <;> omega)) rfl (by first | exact Nat.le_of_ble_eq_true rfl | omega | (dsimp only;omega) | (simp <;> omega)) (by first | exact Nat.le_of_ble_eq_true rfl | omega | (dsimp only;omega) | (simp <;> omega)) (a0D rfl (by first | exact Nat.le_of_ble_eq_true rfl | omega | (dsimp only;omega) | (simp <;> omega))) (by first | exact Nat.le_of_ble_eq_true rfl | omega | (dsimp only;omega) | (simp <;> omega)) rfl) rfl rfl (a0h rfl (a0B rfl)) rfl rfl (c':=c+2) rfl ?_
    | refine a0p 155 (a0a ei_139.h (by first | exact Nat.le_of_ble_eq_true rfl | omega | (dsimp only;omega) | (simp <;> omega)) rfl (by first | exact Nat.le_of_ble_eq_true rfl | omega | (dsimp only;omega) | (simp <;> omega)) (by first | exact Nat.le_of_ble_eq_true rfl | omega | (dsimp only;omega) | (simp <;> omega)) (a0C rfl) (by first | exact Nat.le_of_ble_eq_true rfl | omega | (dsimp only;omega) | (simp <;> omega)) rfl) rfl rfl (a0h rfl a0e) rfl rfl (c':=c+2) rfl ?_
    | refine a0p 155 (a0a ei_139.h (by first | exact Nat.le_of_ble_eq_true rfl | omega | (dsimp only;omega) | (simp <;> omega)) rfl (by first | exact Nat.le_of_ble_eq_true rfl | omega | (dsimp only;omega) | (simp <;> omega)) (by first | exact Nat.le_of_ble_eq_true rfl | omega | (dsimp only;omega) | (simp <;> omega)) (a0u 5 (fun _ _=>default) rfl) (by first | exact Nat.le_of_ble_eq_true rfl | omega | (dsimp only;omega) | (simp <;> omega)) rfl) rfl rfl (a0h rfl a0e) rfl rfl (c':=c+2) rfl ?_
    refine ru 4 ?_
    refine a3c ?_
    refine a2M ok hX a3x.one rfl  [] rfl a0e ((c+1)) (trivial) (by rfl) (by rfl) (kza) ?_
    exact ⟨⟨_,rfl,a9V (.fz _ _ (show Fz [] (a5f e) (a5f e) from Frz.fz)) (a6I rfl rfl (by rw [hw1 hc8,hoo,hit,List.take_length,ho];simp [T.sig];omega))⟩,⟨⟨_,rfl,a9i (x:=(⟨3,0,0,0,[]⟩:Sg)) (by rw [hw1 hc8,hoo,hit,List.take_length,ho];simp [T.sig])⟩,trivial⟩⟩
   exfalso;rw [hc0] at hr8;cases hr8
  exfalso;simp at hr4
 have hlw:=congrArg List.length (hw0 hc0)
 refine ru 11 ?_
 refine rvl (ptH (⟨3,0,0,[],rootsL b ts⟩)) (a9g om htop.1) ?_
 refine ru 18 ?_
 refine wdc (fun hr1 hc1=>?_) (fun hr1 hc1=>?_)
 ·skip
  exfalso;simp at hr1
 refine ru 6 ?_
 refine wdc (fun hr2 hc2=>?_) (fun hr2 hc2=>?_)
 ·skip
  exfalso;simp at hr2
 refine ru 6 ?_
 refine wdc (fun hr4 hc4=>?_) (fun hr4 hc4=>?_)
 ·refine ru 1 ?_
  obtain ⟨o1,ho⟩:∃ o,o=out:=⟨_,rfl⟩;rw [←ho];have hlo:o1.length=out.length:=(by rw [ho]);obtain ⟨gi,hgi⟩:∃ x,x=g2:=⟨_,rfl⟩;rw [←hgi]
  refine ru 8 ?_
  refine a0o (α:=Nat×List Sg×Nat) (fun x c=>⟨158,[(0,.v (.pt 9001 g 0 0)),(2,.v (a0x bin)),(81,.v (a1t (rootsL b ts))),(82,.v (a0g (rootsL b ts).length)),(83,.v (a0g x.1))],[(9001,shO g e x.2.2 x.2.1.length),(9002,a9W x.2.2 x.2.1)],c⟩) (fun x=>x.1≤ts.length∧x.2.1=o1++T.sigL 3 true (ts.take x.1)) (fun x=>ts.length - x.1) ((0,o1,gi)) (by exact ⟨Nat.zero_le _,by simp [T.sigL]⟩) (a0c rfl (Nat.le_refl _) tsa hsa) (fun x c hx NhL2 hL2=>?_)
  revert hx hL2;obtain ⟨i,o,gg⟩:=x;intro hx hL2;dsimp only at hx hL2 ⊢
  obtain ⟨hi,hoo⟩:=hx
  have hol:=a5A hok (i:=i) (k:=3) hi;have hol2:o.length=o1.length+(T.sigL 3 true (ts.take i)).length:=(by rw [hoo,List.length_append])
  refine ru 6 ?_
  refine wdc (fun hr5 hc5=>?_) (fun hr5 hc5=>?_)
  ·skip
   have him:i < ts.length:=om;have hka:=a7S hat him;have hkt:=a3C hka;have hkk:(e.getD (b+T.sizeL (ts.take i)+(ts.getD i default).size - 1) default).kind=(ts.getD i default).kind:=(by rw [hkt.1,a2t]);have hks:=(ts.getD i default).size_pos;have hkn:=a2p (k:=3) him
   refine ru 9 ?_
   refine rvl (a0g ((b+T.sizeL (ts.take i)+(ts.getD i default).size - 1:Nat):Int)) (by exact a1V (i:=i) om (by rw [a3T ts b i him];unfold T.root;omega)) ?_
   refine ru 11 ?_
   refine wdc (fun hr6 hc6=>?_) (fun hr6 hc6=>?_)
   ·skip
    have hor:(orS 3 (decide (i=0))).length=1:=(by rw [decide_eq_false (show ¬ i=0 by omega)];rfl);have hoa:(o++[(⟨4,0,0,0,[]⟩:Sg)]).length=o.length+1:=(by simp)
    refine ru 7 ?_
    refine a0p 96 (a0b (id:=96) (hs:=[_]) ei_139.h omx rfl omx ⟨rfl,rfl,rfl,rfl,trivial⟩) rfl rfl a0e rfl rfl (c':=c+1) rfl ?_
    first
    | refine a0p 97 (a0a ei_139.h (by first | exact Nat.le_of_ble_eq_true rfl | omega | (dsimp only;omega) | (simp <;> omega)) rfl (by first | exact Nat.le_of_ble_eq_true rfl | omega | (dsimp only;omega) | (simp <;> omega)) (by first | exact Nat.le_of_ble_eq_true rfl | omega | (dsimp only;omega) | (simp <;> omega)) (a0s rfl (by first | exact Nat.le_of_ble_eq_true rfl | omega | (dsimp only;omega) | (simp <;> omega))) (by first | exact Nat.le_of_ble_eq_true rfl | omega | (dsimp only;omega) | (simp <;> omega)) rfl) rfl rfl (a0h rfl (a0B rfl)) rfl rfl (c':=c+2) rfl ?_
    | refine a0p 97 (a0a ei_139.h (by first | exact Nat.le_of_ble_eq_true rfl | omega | (dsimp only;omega) | (simp <;> omega)) rfl (by first | exact Nat.le_of_ble_eq_true rfl | omega | (dsimp only;omega) | (simp <;> omega)) (by first | exact Nat.le_of_ble_eq_true rfl | omega | (dsimp only;omega) | (simp <;> omega)) (a0D rfl (by first | exact Nat.le_of_ble_eq_true rfl | omega | (dsimp only;omega) | (simp <;> omega))) (by first | exact Nat.le_of_ble_eq_true rfl | omega | (dsimp only;omega) | (simp <;> omega)) rfl) rfl rfl (a0h rfl (a0B rfl)) rfl rfl (c':=c+2) rfl ?_
    | refine a0p 97 (a0a ei_139.h (by first | exact Nat.le_of_ble_eq_true rfl | omega | (dsimp only;omega) | (simp <;> omega)) rfl (by first | exact Nat.le_of_ble_eq_true rfl | omega | (dsimp only;omega) | (simp <;> omega)) (by first | exact Nat.le_of_ble_eq_true rfl | omega | (dsimp only;omega) | (simp <;> omega)) (a0C rfl) (by first | exact Nat.le_of_ble_eq_true rfl | omega | (dsimp only;omega) | (simp <;> omega)) rfl) rfl rfl (a0h rfl a0e) rfl rfl (c':=c+2) rfl ?_
    | refine a0p 97 (a0a ei_139.h (by first | exact Nat.le_of_ble_eq_true rfl | omega | (dsimp only;omega) | (simp <;> omega)) rfl (by first | exact Nat.le_of_ble_eq_true rfl | omega | (dsimp only;omega) | (simp <;> omega)) (by first | exact Nat.le_of_ble_eq_true rfl | omega | (dsimp only;omega) | (simp <;> omega)) (a0u 5 (fun _ _=>default) rfl) (by first | exact Nat.le_of_ble_eq_true rfl | omega | (dsimp only;omega) | (simp <;> omega)) rfl) rfl rfl (a0h rfl a0e) rfl rfl (c':=c+2) rfl ?_
    refine ru 5 ?_
    refine (a0X 9001 (shO g e (c+1) (o++[(⟨4,0,0,0,[]⟩:Sg)]).length) rfl (by exact a2J (.refl _) (a1G (by first | (simp;done) | (simp;omega))))).wp ?_;refine (a0X 9002 (a9W (c+1) (o++[(⟨4,0,0,0,[]⟩:Sg)])) rfl (by exact (a0w (enc:=sgF) (d:=default) (x:=(⟨4,0,0,0,[]⟩:Sg)) (out:=o) rfl (fun i j _ _=>.refl _) (a4J (.refl _) (.refl _) (.refl _) (.refl _) (.refl _))))).wp ?_
    refine ru 11 ?_
    refine rvl (a0g (ts.getD i default).kind) (a2F om hkk) ?_
    refine ru 1 ?_
    refine a0m 111 (xs:=[_,_,_]) (pre:=[(9001,_),(9002,_)]) (ih i him _ g (c+1) (o++[(⟨4,0,0,0,[]⟩:Sg)]) (inB 3 (ts.getD i default).kind) om) ⟨rfl,⟨rfl,⟨rfl,trivial⟩⟩⟩ (a0h rfl (a0h rfl a0e)) rfl rfl (fun g3 c3 hx3=>?_)
    (try dsimp only)
    refine ru 7 ?_
    exact hL2 ((i+1,(o++[(⟨4,0,0,0,[]⟩:Sg)])++a1h (inB 3 (ts.getD i default).kind) (ts.getD i default).sig,g3)) _ _ (by (try dsimp only);exact ⟨him,by rw [hoo,a3q 3 ts i him,decide_eq_false (show ¬ i=0 by omega)];simp [orS]⟩) (by (try dsimp only);omega) (a0c rfl (Nat.le_refl _) tsa hsa)
   refine ru 13 ?_
   refine rvl (a0g (ts.getD i default).kind) (a2F om hkk) ?_
   refine ru 1 ?_
   refine a0m 111 (xs:=[_,_,_]) (pre:=[(9001,_),(9002,_)]) (ih i him _ g gg o (inB 3 (ts.getD i default).kind) om) ⟨rfl,⟨rfl,⟨rfl,trivial⟩⟩⟩ (a0h rfl (a0h rfl a0e)) rfl rfl (fun g3 c4 hx4=>?_)
   (try dsimp only)
   refine ru 7 ?_
   exact hL2 ((i+1,o++a1h (inB 3 (ts.getD i default).kind) (ts.getD i default).sig,g3)) _ _ (by (try dsimp only);exact ⟨him,by rw [hoo,a3q 3 ts i him,decide_eq_true (show i=0 by omega)];simp [orS]⟩) (by (try dsimp only);omega) (a0c rfl (Nat.le_refl _) tsa hsa)
  have hit:i=ts.length:=om
  refine ru 2 ?_
  refine a0d ?_
  refine ru 8 ?_
  refine wdc (fun hr8 hc8=>?_) (fun hr8 hc8=>?_)
  ·skip
   exfalso;rw [hc0] at hr8;cases hr8
  refine ru 1 ?_
  refine a3c ?_
  refine a2M ok hX a3x.one rfl  [] rfl a0e (gg) (trivial) (by rfl) (by rfl) (kza) ?_
  exact ⟨⟨_,rfl,b3w rfl rfl (by rw [hw0 hc8,hoo,hit,List.take_length,ho];rfl)⟩,⟨⟨_,rfl,a9J (by rw [hw0 hc8,hoo,hit,List.take_length,ho];rfl)⟩,trivial⟩⟩
 exfalso;simp at hr4
theorem b2O:∀ ts:List T,ts.length≤T.sizeL ts
 | []=>Nat.le_refl _
 | t::ts=>by have:=b2O ts;have:=t.size_pos;simp only [List.length_cons,T.sizeL];omega
mutual
theorem a9v (e:List Pt) (he:e.length≤100000):∀ (t:T) (b:Nat),t.ok=true→AtP e b (T.flat b t)→b8G e b t
  | .name s,b,_,hat=>b8F e b he s hat
  | .times lo hi t, b, h, hat => by
    simp only [T.ok,Bool.and_eq_true] at h
    exact b4Q e b he lo hi t (a9v e he t b h.2 (AtP.mono_times hat)) hat
  | .many k ts, b, h, hat => by
    simp only [T.ok,Bool.and_eq_true,Bool.or_eq_true,decide_eq_true_eq] at h
    have hl:ts.length≤100000:=by have:=b2O ts;have:=(a3C hat).2;simp only [T.size] at this;omega
    have ih:=b1a e he ts h.2
    rcases h.1.1 with hk | hk
    · subst hk;exact c0D e b he ts h.2 hl (fun i hi=>ih i hi _ (a7S hat hi)) hat
    · subst hk;exact b4c e b he ts h.2 hl (fun i hi=>ih i hi _ (a7S hat hi)) hat
theorem b1a (e:List Pt) (he:e.length≤100000):∀ ts:List T,T.okL ts=true→∀ i,i < ts.length→∀ b,AtP e b (T.flat b (ts.getD i default))→b8G e b (ts.getD i default)
  | [],_,i,hi,_,_=>absurd hi (Nat.not_lt_zero _)
  | t :: ts, h, i, hi, b, hat => by
    simp only [T.okL,Bool.and_eq_true] at h
    cases i with
    | zero=>exact a9v e he t b h.1 hat
    | succ i=>have:=b1a e he ts h.2 i (by simpa using hi) b (by simpa using hat);simpa using this
end
end Go.Proofs.YtjdmfohncgkdoaaGreatDoor
namespace Go.Proofs.YtjdmfohncgkdoaaGreatDoor
set_option linter.unusedSimpArgs false
set_option linter.unusedVariables false
set_option maxRecDepth 100000
theorem b6V {s:List UInt8} (h:a2P s=true):SgW ⟨1,0,0,0,s⟩:=by
 unfold a2P at h
 split at h
 ·rename_i x hx
  simp only [Bool.and_eq_true,decide_eq_true_eq] at h
  have:=kd1 (a7A hx x (by simp)) h.1
  rw [h.2] at this;exact this
 ·cases h
theorem b6q {s:List UInt8} (h:a2P s=true):s.length≤12:=by
 have:=b6V h
 cases this with
 | name h1 _ _=>exact h1
theorem c0W {lo hi:Int} (h:(decide (0≤lo)&&decide (lo≤20)&&(decide (hi=-1)||decide ((if 1 > lo then 1 else lo)≤hi)&&decide (hi≤20)))=true):TimesOk lo hi:=by
 simp only [Bool.and_eq_true,Bool.or_eq_true,decide_eq_true_eq] at h
 refine ⟨h.1,?_⟩
 rcases h.2 with h2 | h2
 ·exact .inl h2
 ·right
  have:=h2.1
  split at this <;> omega
theorem b9l {b:Bool} {l:List Sg} (h:∀ x∈l,SgW x):∀ x∈a1h b l,SgW x:=by
 unfold a1h
 split
 ·intro x hx
  simp only [List.append_assoc,List.mem_append,List.mem_singleton] at hx
  rcases hx with rfl | hx | rfl
  ·exact .open_
  ·exact h x hx
  ·exact .shut
 ·exact h
mutual
theorem b8J:∀ t:T,t.ok=true→∀ x∈t.sig,SgW x
  | .name s, h => fun x hx => by
    simp only [T.sig,List.mem_singleton] at hx
    subst hx;exact b6V (by simpa [T.ok] using h)
  | .times lo hi t, h => fun x hx => by
    simp only [T.ok] at h
    have h1:=h
    rw [Bool.and_eq_true] at h1
    simp only [T.sig,List.mem_append,List.mem_singleton] at hx
    rcases hx with hx | rfl
    · exact b9l (b8J t h1.2) x hx
    · exact .times (c0W h1.1)
  | .many k ts, h => by
    simp only [T.ok,Bool.and_eq_true] at h
    simp only [T.sig]
    exact b9q k ts h.2 true
theorem b9q (k:Int):∀ ts:List T,T.okL ts=true→∀ f,∀ x∈T.sigL k f ts,SgW x
  | [],_,f=>fun x hx=>by simp [T.sigL] at hx
  | t :: ts, h, f => fun x hx => by
    simp only [T.okL,Bool.and_eq_true] at h
    simp only [T.sigL,List.append_assoc,List.mem_append] at hx
    rcases hx with hx | hx | hx
    · unfold orS at hx
      split at hx
      · simp only [List.mem_singleton] at hx;subst hx;exact .or_
      · cases hx
    · exact b9l (b8J t h.1) x hx
    · exact b9q k ts h.2 false x hx
end
mutual
theorem a6g:∀ (t:T) (b:Nat),t.ok=true→∀ x∈T.flat b t,x.kids.length≤t.size∧x.name.length≤12
  | .name s, b, h => fun x hx => by
    simp only [T.flat,List.mem_singleton] at hx
    subst hx;exact ⟨Nat.zero_le _,b6q (by simpa [T.ok] using h)⟩
  | .times lo hi t, b, h => fun x hx => by
    simp only [T.ok,Bool.and_eq_true] at h
    simp only [T.flat,List.mem_append,List.mem_singleton] at hx
    rcases hx with hx | rfl
    · have:=a6g t b h.2 x hx
      exact ⟨Nat.le_trans this.1 (by simp only [T.size];omega),this.2⟩
    · exact ⟨by show 1≤_;simp only [T.size];omega,Nat.zero_le _⟩
  | .many k ts, b, h => fun x hx => by
    simp only [T.ok,Bool.and_eq_true] at h
    simp only [T.flat,List.mem_append,List.mem_singleton] at hx
    rcases hx with hx | rfl
    · have:=a7M ts b h.2 x hx
      exact ⟨Nat.le_trans this.1 (by simp only [T.size];omega),this.2⟩
    · refine ⟨?_,Nat.zero_le _⟩
      show (rootsL b ts).length≤_
      rw [a1C]
      have:∀ ts:List T,ts.length≤T.sizeL ts:=fun ts=>by
        induction ts with
        | nil=>exact Nat.le_refl _
        | cons t ts ih=>have:=t.size_pos;simp only [List.length_cons,T.sizeL];omega
      have:=this ts
      simp only [T.size];omega
theorem a7M:∀ (ts:List T) (b:Nat),T.okL ts=true→∀ x∈T.flatL b ts,x.kids.length≤T.sizeL ts∧x.name.length≤12
  | [],b,_=>fun x hx=>by simp [T.flatL] at hx
  | t :: ts, b, h => fun x hx => by
    simp only [T.okL,Bool.and_eq_true] at h
    simp only [T.flatL,List.mem_append] at hx
    rcases hx with hx | hx
    · have:=a6g t b h.1 x hx
      exact ⟨Nat.le_trans this.1 (by simp only [T.sizeL];omega),this.2⟩
    · have:=a7M ts _ h.2 x hx
      exact ⟨Nat.le_trans this.1 (by simp only [T.sizeL];omega),this.2⟩
end
theorem c0G {l:List Sg} {t t':T} (h:Seg l 3 0 l.length t) (h':Seg l 3 0 l.length t'):t=t':=by
 have e:a8c l 3 l.length:=⟨fun _=>by rw [b0c (Nat.le_refl _)];decide,fun _=>by rw [b0c (Nat.le_refl _)];decide⟩
 exact (c1v h h' e e).2
end Go.Proofs.YtjdmfohncgkdoaaGreatDoor
namespace Go.Proofs.YtjdmfohncgkdoaaGreatDoor
set_option linter.unusedSimpArgs false
set_option linter.unusedVariables false
set_option maxRecDepth 100000
set_option maxHeartbeats 1000000
open Go.RowKit
theorem b6W {l:List Pt} {i:Nat} (h:i < l.length):l.getD i default∈l:=by
 rw [List.getD_eq_getElem?_getD,List.getElem?_eq_getElem h];exact List.getElem_mem h
theorem b2E {t:T} (h:t.ok=true) (hs:t.size≤100000):PtB (T.flat 0 t):=by
 refine ⟨by rw [T.flat_len];exact hs,fun i hi=>?_⟩
 have:=a6g t 0 h _ (b6W hi)
 omega
theorem b4j (t:T) (h:t.ok=true) (hs:t.size≤250):a0t Tryz.prog 56 [a5f (T.flat 0 t)] (a0r (a6j t.sig)):=by
 have hB:=b2E h (by omega)
 have hfl:=T.flat_len 0 t
 have hsl:=a7t t h
 have hps:=t.size_pos
 have hR:=b6o (T.flat 0 t) hB
 rw [a7r h] at hR
 have hat:AtP (T.flat 0 t) 0 (T.flat 0 t):=⟨[],[],by simp,rfl⟩
 refine a0n Tryz.func56 rfl kr _ _ _ rfl 25 rfl rfl (fun w F=>?_)
 refine ru 13 ?_
 first
 | refine stg 7 (fun hb=>a0l (xs:=[_]) (hR) ⟨rfl,trivial⟩ ⟨(Fz.eq rfl),trivial⟩) rfl rfl rfl rfl rfl ?_
 | refine sth 7 (fun hb=>a0l (xs:=[_]) (hR) ⟨rfl,trivial⟩ ⟨(Fz.eq rfl),trivial⟩) rfl rfl rfl rfl rfl ?_
 refine ru 4 ?_
 refine wdc (fun hr0 hc0=>?_) (fun hr0 hc0=>?_)
 ·skip
  exfalso;have h:=hr0;simp at h;rw [h] at hfl;simp at hfl;omega
 refine ru 6 ?_
 refine a0p 14 (a5q (id:=9001) (sz:=2) rfl rfl rfl (by decide) (by decide)) rfl rfl a0e rfl rfl (c':=1) rfl ?_
 refine ru 4 ?_
 refine (a1l 9001 1 9002 5 149 (a8E []) (shF (T.flat 0 t) 1 0) rfl rfl (fun j hj=>by match j,hj with | 0,_=>exact .inr rfl | 1,_=>exact .inl ⟨rfl,rfl⟩) (by decide) (by decide) (c':=2) rfl).wp ?_
 refine ru 5 ?_
 refine rvl (a0g ((0+t.size - 1:Nat):Int)) (congrArg a0g (show ((T.flat 0 t).length:Int) - 1=((0+t.size - 1:Nat):Int) by omega)) ?_
 refine a0m 19 (xs:=[_,_,_]) (pre:=[(9001,_),(9002,_)]) (a9v (T.flat 0 t) hB.1 t 0 h hat _ 0 1 [] false (by show 0+t.sig.length≤_;omega)) ⟨rfl,⟨rfl,⟨rfl,trivial⟩⟩⟩ (a0h rfl (a0h rfl a0e)) rfl rfl (fun g3 c1 hx1=>?_)
 (try dsimp only)
 refine ru 8 ?_
 refine (a2x 23 [(9002,_)] rfl (a0h rfl a0e) rfl ((show Fz _ _ (a3l ([]++a1h false t.sig)) from a1z (l:=[]++a1h false t.sig) (enc:=sgF) (d:=default) (List.mem_cons_self ..) rfl rfl (Nat.le_refl _) (fun i j hi hj=>b2q _ j)))).seq ?_
 refine cll (b7c t.sig om (fun x hx=>(b8J t h x hx).ok)) ?_
 refine ru 4 ?_
 refine rt1 ?_
 exact Frz.fz
theorem b2j {s:List UInt8} {r:List Pt×Int×Int} (h:ParseIs s r):PtB r.1∧(r.2.2=0→b0h r.1=true):=by
  have hB0:PtB ([]:List Pt):=⟨Nat.zero_le _,fun i hi=>absurd hi (Nat.not_lt_zero _)⟩
  have hlen:=a5L s
  cases h with
  | err e hv=>exact ⟨hB0,fun h=>absurd h (a6S hv)⟩
  | none hv=>exact ⟨hB0,fun _=>rfl⟩
  | odd _ _ _ _ _ _=>exact ⟨hB0,fun h=>absurd (show (2:Int)=0 from h) (by decide)⟩
  | end_ _ _ _ _=>exact ⟨hB0,fun h=>absurd (show (5:Int)=0 from h) (by decide)⟩
  | ok l t hv hs =>
    rw [hv] at hlen
    have hll:l.length≤200:=hlen
    have hk:=b5Q (a7A hv) hs
    have hz:=a2N hs
    exact ⟨b2E hk (by omega),fun _=>a7r hk⟩
end Go.Proofs.YtjdmfohncgkdoaaGreatDoor
namespace Go.Proofs.YtjdmfohncgkdoaaGreatDoor
set_option linter.unusedSimpArgs false
set_option linter.unusedVariables false
end Go.Proofs.YtjdmfohncgkdoaaGreatDoor
namespace Go.Proofs.YtjdmfohncgkdoaaGreatDoor
set_option linter.unusedSimpArgs false
set_option linter.unusedVariables false
set_option maxRecDepth 100000
set_option maxHeartbeats 1000000
open Go.RowKit
theorem b6O:a0t Tryz.prog 56 [a5f []] (a0r []):=by
 have hR:=b6o [] ⟨Nat.zero_le _,fun i hi=>absurd hi (Nat.not_lt_zero _)⟩
 refine a0n Tryz.func56 rfl kr _ _ _ rfl 25 rfl rfl (fun w F=>?_)
 refine ru 13 ?_
 first
 | refine stg 7 (fun hb=>a0l (xs:=[_]) (hR) ⟨rfl,trivial⟩ ⟨(Fz.eq rfl),trivial⟩) rfl rfl rfl rfl rfl ?_
 | refine sth 7 (fun hb=>a0l (xs:=[_]) (hR) ⟨rfl,trivial⟩ ⟨(Fz.eq rfl),trivial⟩) rfl rfl rfl rfl rfl ?_
 refine ru 4 ?_
 refine wdc (fun hr0 hc0=>?_) (fun hr0 hc0=>?_)
 ·refine ru 7 ?_
  refine rt1 ?_
  exact .imm _
 exfalso;have h:=hr0;simp at h
theorem b3F (k:Int) (out:List Pt) (ks:List Int):∃ y,a8f k out ks y:=by
 unfold a8f
 split
 ·exact ⟨(0,out,ks.getD 0 0),rfl⟩
 ·exact ⟨(0,out++[⟨k,0,0,[],ks⟩],(out.length:Int)),rfl⟩
theorem c1a {l:List Sg} (hk:b4O l) (hne:l≠[]) {p:Nat} (hp:p≤l.length) (out:List Pt) (hc:∀ p',p < p'→p'≤l.length→∀ out,∃ x,a5b l 3 p' out x):∃ x,a5b l 1 p out x:=by
  by_cases h1:kd l p=1
  · by_cases h5:kd l (p+1)=5
    · exact ⟨_,b3t (g:=0) h1 h5⟩
    · exact ⟨_,b5F (g:=0) h1 h5⟩
  · by_cases h2:kd l p=2
    · have hlt:=a2v (l:=l) (i:=p) (by rw [h2];decide)
      obtain ⟨⟨t,q,g,o,r⟩,hx⟩:=hc (p+1) (by omega) (by omega) out
      cases t with
      | none=>exact ⟨_,b6C hk hx h2 (.inl rfl)⟩
      | some t =>
        by_cases h3:kd l q=3
        · by_cases h5:kd l (q+1)=5
          · exact ⟨_,b0b (g':=0) hx h2 h3 h5⟩
          · exact ⟨_,b2I hx h2 h3 h5⟩
        · exact ⟨_,b6C hk hx h2 (.inr h3)⟩
    · exact ⟨⟨none,p,0,out,-1⟩,b1e hne hp h1 h2,by simp⟩
theorem b6z {l:List Sg} {p:Nat} {out:List Pt} (hi:∀ p',p≤p'→p'≤l.length→∀ out,∃ x,a5b l 1 p' out x):∀ (n:Nat) (bad:Bool) (q:Nat) (o:List Pt) (ks:List Int),2 * (l.length - q)+(if bad then 0 else 1) < n→b9s l p out bad q o ks→∃ x,a5b l 2 p out x
  | 0,_,_,_,_,h,_=>absurd h (Nat.not_lt_zero _)
  | n + 1, bad, q, o, ks, h, hI => by
    by_cases hk:bad=true∨(kd l q≠1∧kd l q≠2)
    · obtain ⟨tt,_,hd⟩:=b2J hI hk
      obtain ⟨y,hy⟩:=b3F 2 o ks
      exact ⟨_,hd y hy⟩
    · have hb:bad=false:=by cases bad with | true=>exact absurd (.inl rfl) hk | false=>rfl
      subst hb
      have hkq:kd l q=1∨kd l q=2:=by
        by_cases h1:kd l q=1
        · exact .inl h1
        · by_cases h2:kd l q=2
          · exact .inr h2
          · exact absurd (.inr ⟨h1,h2⟩) hk
      obtain ⟨⟨t,q',g,o',r⟩,hx⟩:=hi q hI.2.1 hI.2.2.1 o
      have:=b7n hx
      exact b6z hi n t.isNone q' o' (ks++[r]) (by omega) (b3o hI hkq hx)
theorem c2Y {l:List Sg} {p:Nat} (hp:p≤l.length) (out:List Pt) (hi:∀ p',p≤p'→p'≤l.length→∀ out,∃ x,a5b l 1 p' out x):∃ x,a5b l 2 p out x:=by
 obtain ⟨⟨t,q,g,o,r⟩,hx⟩:=hi p (Nat.le_refl _) hp out
 exact b6z hi _ _ _ _ _ (Nat.lt_succ_self _) (b0f hx)
theorem b9I {l:List Sg} {p:Nat} {out:List Pt} (hi:∀ p',p≤p'→p'≤l.length→∀ out,∃ x,a5b l 2 p' out x):∀ (n:Nat) (bad:Bool) (q:Nat) (o:List Pt) (ks:List Int),2 * (l.length - q)+(if bad then 0 else 1) < n→ChI l p out bad q o ks→∃ x,a5b l 3 p out x
  | 0,_,_,_,_,h,_=>absurd h (Nat.not_lt_zero _)
  | n + 1, bad, q, o, ks, h, hI => by
    by_cases hk:bad=true∨kd l q≠4
    · obtain ⟨tt,_,hd⟩:=b7a hI hk
      obtain ⟨y,hy⟩:=b3F 3 o ks
      exact ⟨_,hd y hy⟩
    · have hb:bad=false:=by cases bad with | true=>exact absurd (.inl rfl) hk | false=>rfl
      subst hb
      have hkq:kd l q=4:=Classical.byContradiction fun h'=>hk (.inr h')
      have hlt:=a2v (l:=l) (i:=q) (by rw [hkq];decide)
      have hpq:=hI.2.1
      obtain ⟨⟨t,q',g,o',r⟩,hx⟩:=hi (q+1) (by omega) (by omega) o
      have:=b4Z hlt hx
      exact b9I hi n t.isNone q' o' (ks++[r]) (by omega) (b7p hI hkq hx)
theorem b5D {l:List Sg} {p:Nat} (hp:p≤l.length) (out:List Pt) (hi:∀ p',p≤p'→p'≤l.length→∀ out,∃ x,a5b l 2 p' out x):∃ x,a5b l 3 p out x:=by
 obtain ⟨⟨t,q,g,o,r⟩,hx⟩:=hi p (Nat.le_refl _) hp out
 exact b9I hi _ _ _ _ _ (Nat.lt_succ_self _) (b2N hx)
theorem b6a {l:List Sg} (hk:b4O l) (hne:l≠[]):∀ n p,l.length - p < n→p≤l.length→∀ out,∃ x,a5b l 3 p out x
 | 0,p,h,_,_=>absurd h (Nat.not_lt_zero _)
 | n+1,p,h,hp,out=>b5D hp out fun p1 h1 hp1 out1=>c2Y hp1 out1 fun p2 h2 hp2 out2=>c1a hk hne hp2 out2 fun p3 h3 hp3 out3=>b6a hk hne n p3 (by omega) hp3 out3
theorem b3c (s:List UInt8):∃ r,ParseIs s r:=by
  cases hv:lexV s with
  | error e=>exact ⟨_,.err e hv⟩
  | ok l =>
    by_cases hne:l=[]
    · subst hne;exact ⟨_,.none hv⟩
    · have hk:=b9m (a7A hv)
      obtain ⟨x,hx⟩:=b6a hk hne _ 0 (Nat.lt_succ_self _) (Nat.zero_le _) []
      by_cases hq:x.q < l.length
      · exact ⟨_,b0U hv hk hne hx hq⟩
      · cases hb : x.t.isNone with
        | true=>exact ⟨_,b0Z hv hne hx (by omega) hb⟩
        | false=>exact ⟨_,b2Q hv hx (by omega) hb⟩
theorem c2k {l:List Sg} {t:T} (h:Seg l 3 0 l.length t):l≠[]:=fun e=>by subst e;have:=a1b h;simp at this
theorem b0W {s:List UInt8} {r r':List Pt×Int×Int} (h:ParseIs s r) (h':ParseIs s r'):r=r':=by
  cases h with
  | err e hv => cases h' with
    | err e' hv'=>rw [hv] at hv';injection hv' with e1;rw [e1]
    | none hv'=>rw [hv] at hv';cases hv'
    | odd _ _ hv'=>rw [hv] at hv';cases hv'
    | end_ _ hv'=>rw [hv] at hv';cases hv'
    | ok _ _ hv'=>rw [hv] at hv';cases hv'
  | none hv => cases h' with
    | err e' hv'=>rw [hv] at hv';cases hv'
    | none hv'=>rfl
    | odd l _ hv' hne=>rw [hv] at hv';injection hv' with e1;exact absurd e1.symm hne
    | end_ l hv' hne=>rw [hv] at hv';injection hv' with e1;exact absurd e1.symm hne
    | ok l _ hv' hs=>rw [hv] at hv';injection hv' with e1;exact absurd e1.symm (c2k hs)
  | odd l q hv hne hq hc => cases h' with
    | err e' hv'=>rw [hv] at hv';cases hv'
    | none hv'=>rw [hv] at hv';injection hv' with e1;exact absurd e1 hne
    | odd l' q' hv' hne' hq' hc'=>rw [hv] at hv';injection hv' with e1;subst e1;rw [hc] at hc';injection hc' with e2;rw [show q=q' by omega]
    | end_ l' hv' hne' hc'=>rw [hv] at hv';injection hv' with e1;subst e1;rw [hc] at hc';injection hc' with e2 e3;cases e3
    | ok l' t hv' hs=>rw [hv] at hv';injection hv' with e1;subst e1;rw [a5S hs] at hc;injection hc with e2;omega
  | end_ l hv hne hc => cases h' with
    | err e' hv'=>rw [hv] at hv';cases hv'
    | none hv'=>rw [hv] at hv';injection hv' with e1;exact absurd e1 hne
    | odd l' q' hv' hne' hq' hc'=>rw [hv] at hv';injection hv' with e1;subst e1;rw [hc] at hc';injection hc' with e2 e3;cases e3
    | end_ l' hv' hne' hc'=>rfl
    | ok l' t hv' hs=>rw [hv] at hv';injection hv' with e1;subst e1;rw [a5S hs] at hc;injection hc with e2 e3;cases e3
  | ok l t hv hs =>
    cases h' with
    | err e' hv'=>rw [hv] at hv';cases hv'
    | none hv'=>rw [hv] at hv';injection hv' with e1;exact absurd e1 (c2k hs)
    | odd l' q' hv' hne' hq' hc'=>rw [hv] at hv';injection hv' with e1;subst e1;rw [a5S hs] at hc';injection hc' with e2;omega
    | end_ l' hv' hne' hc'=>rw [hv] at hv';injection hv' with e1;subst e1;rw [a5S hs] at hc';injection hc' with e2 e3;cases e3
    | ok l' t' hv' hs'=>rw [hv] at hv';injection hv' with e1;subst e1;rw [c0G hs hs']
noncomputable def a3K (s:List UInt8):List Pt×Int×Int:=Classical.choose (b3c s)
theorem a9S (s:List UInt8):ParseIs s (a3K s):=Classical.choose_spec (b3c s)
theorem a9e {s:List UInt8} {r:List Pt×Int×Int} (h:ParseIs s r):a3K s=r:=b0W (a9S s) h
end Go.Proofs.YtjdmfohncgkdoaaGreatDoor
namespace Go.Proofs.YtjdmfohncgkdoaaGreatDoor
set_option linter.unusedSimpArgs false
set_option linter.unusedVariables false
open Go.Lib (index count splitK indexByte)
def a0i (c:UInt8):List UInt8→List (List UInt8)
 | []=>[[]]
 | b::l=>if b=c then []::a0i c l else (b::(a0i c l).headD [])::(a0i c l).tail
theorem a2e (c:UInt8) (l:List UInt8):a0i c l≠[]:=by cases l with
 | nil=>simp [a0i]
 | cons b l=>simp only [a0i];split <;> simp
theorem a5m (c:UInt8) (l:List UInt8):a0i c l=(a0i c l).headD []::(a0i c l).tail:=by
 cases h:a0i c l with
 | nil=>exact absurd h (a2e c l)
 | cons a t=>rfl
theorem a5n (b:UInt8) (l:List UInt8) (c:UInt8):index (b::l) [c]=if b=c then 0 else if index l [c]=-1 then -1 else index l [c]+1:=by
 rw [Lib.index_one,Lib.index_one]
 simp only [indexByte]
 by_cases h:b=c
 ·rw [if_pos h,if_pos (by simp [h])]
 ·rw [if_neg h,if_neg (by simp [h])]
  by_cases h2:indexByte l c=-1
  ·rw [if_pos h2,if_pos (by simp [h2])]
  ·rw [if_neg h2,if_neg (by simp [h2])]
theorem b1X (b:UInt8) (l:List UInt8) (c:UInt8):count (b::l) [c]=if b=c then count l [c]+1 else count l [c]:=by
 rw [Lib.count_one,Lib.count_one,List.count_cons]
 by_cases h:b=c
 ·simp [h]
 ·simp [h]
theorem b4W (c:UInt8) (l:List UInt8):splitK [c] 0 (count l [c]) l=a0i c l:=by
  induction l with
  | nil=>rfl
  | cons b l ih =>
    rw [b1X]
    simp only [a0i]
    by_cases h:b=c
    · rw [if_pos h,if_pos h]
      unfold splitK
      have hi:index (b::l) [c]=0:=by rw [a5n,if_pos h]
      rw [if_neg (by rw [hi];decide),hi]
      simp only [Int.toNat_zero,Nat.zero_add,List.length_cons,List.length_nil,List.drop_succ_cons,List.drop_zero,List.take_zero,Nat.add_zero]
      rw [ih]
    · rw [if_neg h,if_neg h]
      rw [←ih]
      by_cases h2:index l [c]=-1
      · have hc:count l [c]=0:=Lib.count_miss h2
        rw [hc];rfl
      · have hn:=Lib.index_one l c
        have hge:=Lib.indexByte_ge l c
        obtain ⟨i,hi⟩:∃ i:Nat,index l [c]=i:=⟨(index l [c]).toNat,by omega⟩
        have hc:count l [c]=1+count (l.drop (i+1)) [c]:=Lib.count_hit (by simp) hi
        rw [hc,Nat.add_comm 1]
        unfold splitK
        rw [a5n,if_neg h,if_neg h2,hi,if_neg (by simp <;> omega),if_neg (by simp <;> omega)]
        simp only [Int.toNat_natCast,List.length_cons,List.length_nil,Nat.zero_add,Nat.add_zero,List.headD_cons,List.tail_cons]
        have e:((i:Int)+1).toNat=i+1:=by omega
        rw [e]
        simp [List.take_succ_cons,List.drop_succ_cons]
def a5z (ls:List (List UInt8)):Nat:=(ls.map List.length).sum
theorem a7m (c:UInt8) (l:List UInt8):a5z (a0i c l)+(a0i c l).length=l.length+1:=by
  induction l with
  | nil=>rfl
  | cons b l ih =>
    simp only [a0i]
    obtain ⟨a,t,h'⟩:∃ a t,a0i c l=a::t:=⟨_,_,a5m c l⟩
    rw [h'] at ih ⊢
    by_cases h:b=c
    · rw [if_pos h];simp only [a5z,List.map_cons,List.sum_cons,List.length_cons,List.length_nil] at *
      omega
    · rw [if_neg h];simp only [a5z,List.map_cons,List.sum_cons,List.length_cons,List.headD_cons,List.tail_cons] at *
      omega
theorem a2E (c:UInt8) (l:List UInt8):(a0i c l).length≤l.length+1:=by have:=a7m c l;omega
theorem b4s {ls:List (List UInt8)} {w:List UInt8} (h:w∈ls):w.length≤a5z ls:=by
  induction ls with
  | nil=>cases h
  | cons a t ih =>
    simp only [a5z,List.map_cons,List.sum_cons] at *
    rcases List.mem_cons.1 h with h | h
    · subst h;omega
    · have:=ih h;omega
theorem b5S {c:UInt8} {l w:List UInt8} (h:w∈a0i c l):w.length≤l.length:=by
 have h1:=b4s h
 have h2:=a7m c l
 have h3:0 < (a0i c l).length:=List.length_pos_iff.2 (a2e c l)
 omega
def b0a (w:List UInt8) (ls:List (List UInt8)):List (List UInt8):=(w++ls.headD [])::ls.tail
theorem a9u (c:UInt8) (l:List UInt8):b0a [] (a0i c l)=a0i c l:=(a5m c l).symm
theorem b5u (c b:UInt8) (w l:List UInt8) (h:¬ b=c):b0a w (a0i c (b::l))=b0a (w++[b]) (a0i c l):=by
 simp [b0a,a0i,h]
theorem b2R (c:UInt8) (w l:List UInt8):b0a w (a0i c (c::l))=w::a0i c l:=by
 simp [b0a,a0i]
theorem b7N (c:UInt8) (w:List UInt8):b0a w (a0i c [])=[w]:=by simp [b0a,a0i]
theorem a7k (c:UInt8) (l:List UInt8) (h:∀ b∈l,b≠c):a0i c l=[l]:=by
  induction l with
  | nil=>rfl
  | cons b l ih =>
    simp only [a0i]
    rw [if_neg (h b (by simp)),ih (fun x hx=>h x (by simp [hx]))]
    rfl
def a3V (w:List UInt8):Bool:=!w.isEmpty&&w.all a2X
def a2a (l:List UInt8):Option (List (List UInt8)):=if l=[] then some [] else if (a0i 32 l).all a3V=true then some (a0i 32 l) else none
def a1A (l:List UInt8):List (List UInt8)×Nat×Int :=
 if 65536 < l.length then ([],0,4) else if l=[] then ([],0,0) else if (a0i 10 l).getLast (a2e 10 l)=[] then ((a0i 10 l).dropLast,0,0) else ([],(a0i 10 l).length,2)
def a0U:List (List UInt8)→List UInt8
 | []=>[]
 | [w]=>w
 | w::v::r=>w++32::a0U (v::r)
theorem b6b (w:List UInt8) (ls:List (List UInt8)) (h:ls≠[]):a0U (b0a w ls)=w++a0U ls:=by
 match ls,h with
 | [a],_=>simp [b0a,a0U]
 | a::b::r,_=>simp [b0a,a0U]
theorem join_cons (w:List UInt8) (ls:List (List UInt8)) (h:ls≠[]):a0U (w::ls)=w++32::a0U ls:=by
 cases ls with
 | nil=>exact absurd rfl h
 | cons a t=>rfl
theorem b4x (l:List UInt8):a0U (a0i 32 l)=l:=by
  induction l with
  | nil=>rfl
  | cons b l ih =>
    by_cases h:b=32
    · subst h
      have e:a0i 32 (32::l)=[]::a0i 32 l:=by simp [a0i]
      rw [e,join_cons _ _ (a2e _ _),ih];rfl
    · have e:a0i 32 (b::l)=b0a [b] (a0i 32 l):=by simp [a0i,h,b0a]
      rw [e,b6b _ _ (a2e _ _),ih];rfl
theorem b2K (ls:List (List UInt8)):Go.Lib.join ls [32]=a0U ls:=by
  match ls with
  | []=>rfl
  | [w]=>exact Go.Lib.join_one w [32]
  | w :: v :: r =>
    have:=b2K (v::r)
    simp only [a0U]
    rw [←this,Go.Lib.join_cons,Go.Lib.join_cons]
    simp [Go.Lib.joinTail]
theorem a5C {l:List UInt8} (hl:l≠[]) {w:List UInt8} (hw:w∈a0i 32 l) (h:a3V w=false):a2a l=none:=by
 unfold a2a
 rw [if_neg hl,if_neg (fun ha=>by rw [List.all_eq_true.1 ha w hw] at h;cases h)]
theorem a8I {l:List UInt8} (hl:l≠[]) (h:∀ w∈a0i 32 l,a3V w=true):a2a l=some (a0i 32 l):=by
 unfold a2a
 rw [if_neg hl,if_pos (List.all_eq_true.2 h)]
theorem a8t (w r:List UInt8) (b:UInt8) (h:a2X b=false):a3V (w++b::r)=false:=by
 unfold a3V
 simp [h]
theorem b5P {w:List UInt8} {j:Nat} (hj:j < w.length) (h:a2X (w.getD j 0)=false):a3V w=false:=by
 have e:w=w.take j++w.getD j 0::w.drop (j+1):=by
  have h1:w.getD j 0=w[j]:=by simp [List.getD_eq_getElem?_getD,hj]
  rw [h1,←List.drop_eq_getElem_cons hj,List.take_append_drop]
 rw [e];exact a8t _ _ _ h
theorem b2t {w:List UInt8} (h0:w≠[]) (h:∀ j,j < w.length→a2X (w.getD j 0)=true):a3V w=true:=by
 unfold a3V
 rw [Bool.and_eq_true]
 refine ⟨by cases w with | nil=>exact absurd rfl h0 | cons a t=>rfl,List.all_eq_true.2 fun b hb=>?_⟩
 obtain ⟨j,hj,rfl⟩:=List.getElem_of_mem hb
 have:=h j hj
 simpa [List.getD_eq_getElem?_getD,hj] using this
theorem a8w (c:UInt8):∀ (w r:List UInt8),(∀ b∈w,b≠c)→a0i c (w++r)=b0a w (a0i c r)
  | [],r,_=>(a9u c r).symm
  | b :: w, r, h => by
    have ih:=a8w c w r (fun x hx=>h x (by simp [hx]))
    simp only [List.cons_append,a0i]
    rw [if_neg (h b (by simp)),ih]
    simp [b0a]
theorem b1l (c:UInt8) (w r:List UInt8) (h:∀ b∈w,b≠c):a0i c (w++c::r)=w::a0i c r:=by
 rw [a8w c w _ h,b2R]
theorem b1y {l:List UInt8} {p:Nat} (hp:p < l.length):l.drop p=l.getD p 0::l.drop (p+1):=by
 have h1:l.getD p 0=l[p]:=by simp [List.getD_eq_getElem?_getD,hp]
 rw [h1,←List.drop_eq_getElem_cons hp]
theorem b4i {l:List UInt8} {f p:Nat} (hf:f≤p) (hp:p < l.length) (h:∀ b∈(l.drop f).take (p - f),b≠10) (hb:l.getD p 0=10):a0i 10 (l.drop f)=(l.drop f).take (p - f)::a0i 10 (l.drop (p+1)):=by
 have e:l.drop f=(l.drop f).take (p - f)++10::l.drop (p+1):=by
  have h1:(l.drop f).drop (p - f)=l.drop p:=by rw [List.drop_drop];congr 1;omega
  have:=List.take_append_drop (p - f) (l.drop f)
  rw [h1,b1y hp,hb] at this
  exact this.symm
 have:=b1l 10 ((l.drop f).take (p - f)) (l.drop (p+1)) h
 rw [←e] at this
 exact this
theorem b4t {l:List UInt8} {f p:Nat} (hf:f≤p) (hp:p < l.length) (h:∀ b∈(l.drop f).take (p - f),b≠10) (hb:l.getD p 0≠10):∀ b∈(l.drop f).take (p+1 - f),b≠10:=by
 intro b hm
 have e:p+1 - f=p - f+1:=by omega
 have hlt:p - f < (l.drop f).length:=by rw [List.length_drop];omega
 rw [e,List.take_succ_eq_append_getElem hlt] at hm
 rcases List.mem_append.1 hm with hm | hm
 ·exact h b hm
 ·simp only [List.mem_singleton] at hm
  subst hm
  have:(l.drop f)[p - f]=l.getD p 0:=by
   rw [List.getElem_drop]
   simp [List.getD_eq_getElem?_getD,hp,show f+(p - f)=p from by omega]
  rw [this];exact hb
theorem b6w {l:List UInt8} {f:Nat} {out:List (List UInt8)} (h1:a0i 10 l=out++a0i 10 (l.drop f)) (h:∀ b∈l.drop f,b≠10):a0i 10 l=out++[l.drop f]:=by
 rw [a7k 10 _ h] at h1;exact h1
theorem b0M {l:List UInt8} (h0:¬ 65536 < l.length) (h1:l≠[]) {out:List (List UInt8)} {w:List UInt8} (h:a0i 10 l=out++[w]):a1A l=if w=[] then (out,0,0) else ([],out.length+1,2):=by
 unfold a1A
 rw [if_neg h0,if_neg h1]
 have e:(a0i 10 l).getLast (a2e 10 l)=w:=by simp [h]
 rw [e]
 by_cases hw:w=[]
 ·rw [if_pos hw,if_pos hw,h];simp
 ·rw [if_neg hw,if_neg hw,h];simp
end Go.Proofs.YtjdmfohncgkdoaaGreatDoor
namespace Go.Proofs.YtjdmfohncgkdoaaGreatDoor
set_option linter.unusedSimpArgs false
set_option linter.unusedVariables false
set_option maxRecDepth 100000
open Go.Lib (index count indexByte)
abbrev Bs:=List UInt8
def b2B (s:Bs):Bool:=decide (0 < s.length)&&decide (s.length < 13)&&smallZ (bz s 0)&&(List.range s.length).all fun j=>alnumZ (bz s j)
theorem b7D (s:Bs):b2B s=a2P s:=by
  rw [Bool.eq_iff_iff]
  constructor
  · intro h
    unfold b2B at h
    simp only [Bool.and_eq_true,decide_eq_true_eq,List.all_eq_true,List.mem_range] at h
    exact b2Y (p:=0) (.name (by omega) h.1.2 h.2)
  · intro h
    have hw:∃ p,SgW ⟨1,p,0,0,s⟩:=by
      unfold a2P at h
      split at h
      · rename_i x hv
        rw [Bool.and_eq_true,decide_eq_true_eq,decide_eq_true_eq] at h
        have hx:=a7A hv x (List.mem_singleton_self _)
        obtain ⟨k,p,a,b,n⟩:=x
        obtain ⟨h1,h2⟩:=h
        simp only at h1 h2
        subst h1;subst h2
        cases hx with
        | name q1 q2 q3=>exact ⟨p,.name q1 q2 q3⟩
      · cases h
    obtain ⟨p,hw⟩:=hw
    cases hw with
    | name q1 q2 q3 =>
      unfold b2B
      simp only [Bool.and_eq_true,decide_eq_true_eq,List.all_eq_true,List.mem_range]
      refine ⟨⟨⟨?_,by omega⟩,q2⟩,q3⟩
      rcases Nat.eq_zero_or_pos s.length with h0 | h0
      · have:s=[]:=List.eq_nil_of_length_eq_zero h0
        subst this
        cases q2
      · exact h0
theorem b4v {s:Bs} {r:List Pt×Int×Int} (h:ParseIs s r):(decide (r.2.2=0)&&decide (r.1.length=1)&&decide ((r.1.getD 0 default).name=s))=a2P s:=by
  rw [Bool.eq_iff_iff]
  constructor
  · intro hh
    simp only [Bool.and_eq_true,decide_eq_true_eq] at hh
    obtain ⟨⟨h0,h1⟩,h2⟩:=hh
    have W0:=b2j h
    cases h with
    | err e hv=>simp at h1
    | none hv=>simp at h1
    | odd l q hv hne hq hc=>simp at h1
    | end_ l hv hne hc=>simp at h1
    | ok l t hv hs =>
      have hk:t.ok=true:=b5Q (a7A hv) hs
      have h1:(T.flat 0 t).length=1:=h1
      rw [T.flat_len] at h1
      cases t with
      | name n =>
        have h2:n=s:=h2
        subst h2;exact hk
      | times lo hi t=>have:=T.size_pos t;simp only [T.size] at h1;omega
      | many k ts =>
        exfalso
        unfold T.ok at hk
        simp only [Bool.and_eq_true,decide_eq_true_eq] at hk
        have h2:=hk.1.2
        simp only [T.size] at h1
        match ts,h2 with
        | a::b::r,_=>have:=T.size_pos a;simp only [T.sizeL] at h1;omega
  · intro hn
    unfold a2P at hn
    split at hn
    · rename_i x hv
      rw [Bool.and_eq_true,decide_eq_true_eq,decide_eq_true_eq] at hn
      have hs:Seg [x] 3 0 1 (.name x.name):=.choice1 _ _ _ (.row1 _ _ _ (.item _ _ _ (.name 0 (by unfold kd;rw [if_pos (by simp)];exact hn.1)) (by unfold kd;rw [if_neg (by simp)];decide)))
      have:=b0W h (.ok [x] _ hv hs)
      rw [this]
      simp [T.flat,hn.2]
    · cases hn
theorem b7m {l:List Sg} {v p q:Nat} {t:T} (h:Seg l v p q t):t.size+p≤q+(v - 1):=by
  induction h with
  | name p h=>simp only [T.size];omega
  | group p q t _ h3 ih=>omega
  | item p q t _ _ ih=>omega
  | times p q t _ h5 ih=>simp only [T.size];omega
  | row1 p q t _ ih=>omega
  | row p q ts c h2 h0 he _ ih =>
    have key:∀ i,i≤ts.length→T.sizeL (ts.take i)+c 0≤c i:=by
      intro i
      induction i with
      | zero=>intro _;simp [T.sizeL]
      | succ i ihi=>intro hi;have a:=ihi (by omega);have b:=ih i hi;rw [a1j ts i hi];omega
    have:=key ts.length (Nat.le_refl _)
    rw [List.take_length,h0,he] at this
    simp only [T.size];omega
  | choice1 p q t _ ih=>omega
  | choice p q ts c e h2 h0 he _ hs ih =>
    have key:∀ i,i < ts.length→T.sizeL (ts.take (i+1))+c 0≤e i+1:=by
      intro i
      induction i with
      | zero=>intro hi;have b:=ih 0 hi;rw [a1j ts 0 hi,a6p];omega
      | succ i ihi=>intro hi;have a:=ihi (by omega);have b:=ih (i+1) hi;have c:=hs i hi;rw [a1j ts (i+1) hi];omega
    have:=key (ts.length - 1) (by omega)
    rw [show ts.length - 1+1=ts.length by omega,List.take_length,h0,he] at this
    simp only [T.size];omega
theorem a8q (s:Bs):(a3K s).1=[]∨∃ t:T,t.ok=true∧t.size≤250∧a3K s=(T.flat 0 t,0,0):=by
  have h:=a9S s
  generalize a3K s=r at h
  have hlen:=a5L s
  cases h with
  | err e hv=>exact .inl rfl
  | none hv=>exact .inl rfl
  | odd l q hv hne hq hc=>exact .inl rfl
  | end_ l hv hne hc=>exact .inl rfl
  | ok l t hv hs =>
    rw [hv] at hlen
    have hll:l.length≤200:=hlen
    have:=b7m hs
    exact .inr ⟨t,b5Q (a7A hv) hs,by omega,rfl⟩
open Classical in
noncomputable def a5Y (s:Bs):Bs:=if h:∃ t:T,t.ok=true∧t.size≤250∧a3K s=(T.flat 0 t,0,0) then a6j (Classical.choose h).sig else []
theorem q9 {p:Nat→Prop} (h0:p 0) (h1:p 1) (h2:p 2) (h3:p 3) (h4:p 4) (h5:p 5) (h6:p 6) (h7:p 7) (h8:p 8):∀ j,j < 9→p j:=fun j hj=>by
 match j,hj with
 | 0,_=>exact h0
 | 1,_=>exact h1
 | 2,_=>exact h2
 | 3,_=>exact h3
 | 4,_=>exact h4
 | 5,_=>exact h5
 | 6,_=>exact h6
 | 7,_=>exact h7
 | 8,_=>exact h8
def a7T:List Bs→List Bs→Option (List Bs)
 | [],out=>some out
 | w::r,out=>if a2P w=true∧w∉out then a7T r (out++[w]) else none
def b2l (s:Bs):Option (List Bs):=a7T (a0i 44 s) []
def a1v (s:Bs):Option Int:=match a2U s with
 | some n=>if 0≤n∧n≤999 then some n else none
 | none=>none
def a0T (s:Bs):Option (Bool×List Bs):=if s=[42] then some (true,[]) else (b2l s).map fun l=>(false,l)
def a3R (c:UInt8):Bs→Bs×Bs×Bool
 | []=>([],[],false)
 | b::l=>if b=c then ([],l,true) else (b::(a3R c l).1,(a3R c l).2.1,(a3R c l).2.2)
theorem c1h (s:Bs) (c:UInt8):Lib.cut s [c]=a3R c s:=by
  induction s with
  | nil=>rfl
  | cons b l ih =>
    unfold Lib.cut at ih ⊢
    rw [a5n]
    show _=(if b=c then ([],l,true) else (b::(a3R c l).1,(a3R c l).2.1,(a3R c l).2.2))
    by_cases h:b=c
    · rw [if_pos h,if_pos h,if_pos (Int.le_refl _)];rfl
    · rw [if_neg h,if_neg h,←ih]
      have hge:=Lib.index_ge l [c]
      by_cases h2:index l [c]=-1
      · rw [if_pos h2,h2];rfl
      · rw [if_neg h2,if_pos (by omega),if_pos (by omega),show (index l [c]+1).toNat=(index l [c]).toNat+1 by omega]
        simp only [List.take_succ_cons]
        rw [show (index l [c]).toNat+1+[c].length=((index l [c]).toNat+[c].length)+1 by omega,List.drop_succ_cons]
theorem b0G {c:UInt8} {s:Bs}:(Lib.indexByte s c=-1→a0i c s=[s])∧(0≤Lib.indexByte s c→a0i c s=s.take (Lib.indexByte s c).toNat::a0i c (s.drop ((Lib.indexByte s c).toNat+1))∧(Lib.indexByte s c).toNat < s.length):=by
  induction s with
  | nil=>exact ⟨fun _=>rfl,fun h=>by cases h⟩
  | cons b l ih =>
    have hge:=Lib.indexByte_ge l c
    simp only [Lib.indexByte,a0i]
    by_cases h:b=c
    · rw [if_pos h,if_pos (by simp [h])]
      exact ⟨(fun h=>by cases h),fun _=>⟨rfl,Nat.succ_pos _⟩⟩
    · rw [if_neg h,if_neg (by simp [h])]
      by_cases h2:Lib.indexByte l c=-1
      · rw [if_pos (by simp [h2]),ih.1 h2]
        exact ⟨fun _=>rfl,fun h=>by cases h⟩
      · rw [if_neg (by simp [h2])]
        obtain ⟨e1,e2⟩:=ih.2 (by omega)
        refine ⟨fun h=>by omega,fun _=>?_⟩
        rw [e1,show (Lib.indexByte l c+1).toNat=(Lib.indexByte l c).toNat+1 by omega]
        exact ⟨rfl,Nat.succ_lt_succ e2⟩
theorem a3Y {c:UInt8}:∀ {s w:Bs},w∈a0i c s→w.length≤s.length
  | [], w, h => by
    have:w=[]:=by simpa [a0i] using h
    subst this;exact Nat.le_refl _
  | b :: l, w, h => by
    simp only [a0i] at h
    split at h
    · rcases List.mem_cons.1 h with rfl | h
      · exact Nat.zero_le _
      · exact Nat.le_succ_of_le (a3Y h)
    · have hc:=a5m c l
      rcases List.mem_cons.1 h with rfl | h
      · have:(a0i c l).headD []∈a0i c l:=by rw [hc];exact List.mem_cons_self ..
        exact Nat.succ_le_succ (a3Y this)
      · exact Nat.le_succ_of_le (a3Y (by rw [hc];exact List.mem_cons_of_mem _ h))
theorem b2b {c:UInt8} {s:Bs} {i:Nat} (h:i < (a0i c s).length):((a0i c s).getD i []).length≤s.length :=
 a3Y (by rw [List.getD_eq_getElem?_getD,List.getElem?_eq_getElem h];exact List.getElem_mem h)
def b8M {α:Type} (q:α→Bool) (l:List α):Int:=match l.findIdx? q with | some i=>(i:Int) | none=>-1
theorem a3I {α:Type} {q:α→Bool} {l:List α} {d:α} {i:Nat} (hi:i < l.length) (h:q (l.getD i d)=true) (hno:∀ j,j < i→q (l.getD j d)=false):b8M q l=i:=by
 have gi:∀ {j} (h:j < l.length),l.getD j d=l[j]:=fun h=>by rw [List.getD_eq_getElem?_getD,List.getElem?_eq_getElem h];rfl
 unfold b8M
 rw [show l.findIdx? q=some i from ?_]
 rw [List.findIdx?_eq_some_iff_getElem]
 refine ⟨hi,by rw [←gi hi];exact h,fun j hj=>?_⟩
 rw [←gi (by omega:j < l.length),hno j hj];simp
theorem a5T {α:Type} {q:α→Bool} {l:List α} {d:α} (hno:∀ j,j < l.length→q (l.getD j d)=false):b8M q l=-1:=by
 unfold b8M
 rw [show l.findIdx? q=none from ?_]
 rw [List.findIdx?_eq_none_iff]
 intro x hx
 obtain ⟨j,hj,rfl⟩:=List.mem_iff_getElem.1 hx
 have:=hno j hj
 rwa [List.getD_eq_getElem?_getD,List.getElem?_eq_getElem hj] at this
theorem b1E {α:Type} (q:α→Bool) (l:List α):decide (b8M q l≥0)=l.any q:=by
  unfold b8M
  cases h:l.findIdx? q with
  | none =>
    rw [List.findIdx?_eq_none_iff] at h
    symm
    show l.any q=false
    rw [List.any_eq_false]
    exact fun x hx=>by simp [h x hx]
  | some i =>
    rw [List.findIdx?_eq_some_iff_getElem] at h
    obtain ⟨hi,hq,_⟩:=h
    rw [List.any_eq_true.2 ⟨l[i],List.getElem_mem hi,hq⟩]
    simp
structure Nd where
 name:Bs
 groups:List Bs
 inl:Bool
 pick:Bool
 leaf:Bool
 attr:Int
 all:Bool
 marks:List Bs
 expr:Bs
structure Mk where
 name:Bs
 val:Int
 all:Bool
 bars:List Bs
structure Dc where
 nodes:List Nd
 marks:List Mk
deriving instance DecidableEq for Nd
deriving instance DecidableEq for Mk
deriving instance DecidableEq for Dc
def Nd.zero:Nd:=⟨[],[],false,false,false,0,false,[],[]⟩
def Mk.zero:Mk:=⟨[],0,false,[]⟩
def Dc.zero:Dc:=⟨[],[]⟩
instance:Inhabited Nd:=⟨Nd.zero⟩
instance:Inhabited Mk:=⟨Mk.zero⟩
@[reducible] def a1S:Bs:=[103,114,111,117,112]
@[reducible] def c1L:Bs:=[105,110,108,105,110,101]
@[reducible] def b3X:Bs:=[112,105,99,107]
@[reducible] def b4b:Bs:=[97,116,116,114]
@[reducible] def a7N:Bs:=[109,97,114,107,115]
@[reducible] def c2I:Bs:=[118,97,108]
@[reducible] def b6f:Bs:=[98,97,114,115]
@[reducible] def a8T:Bs:=[110,111,100,101]
@[reducible] def b1Y:Bs:=[109,97,114,107]
@[reducible] def a4Z:Bs:=[116,101,120,116]
def a2y (word:Bs) (has:Bool):Int :=
 if a1S=word∧true=has then 0 else if c1L=word∧false=has then 1 else if b3X=word∧false=has then 2 else if b4b=word∧true=has then 3 else if a7N=word∧true=has then 4 else -1
def a1y (i:Int) (n:Nd) (v:Bs):Nd×Bool :=
 if i=0 then (if a2P v=true∧v∉n.groups∧n.groups.length < 4 then ({ n with groups:=n.groups++[v] },true) else (n,false))
 else if i=1 then ({ n with inl:=true },true)
 else if i=2 then ({ n with pick:=true },true)
 else if i=3 then ({ n with attr:=(a2U v).getD 0 },(a1v v).isSome)
 else ({ n with all:=((a0T v).getD (false,[])).1,marks:=((a0T v).getD (false,[])).2 },(a0T v).isSome)
noncomputable def a8a:List Bs→List Bs→Nd→Nd×Bool
  | [],_,n=>(n,true)
  | w :: r, met, n =>
    if w=[58] then ({ n with leaf:=false,expr:=a5Y (a0U r) },decide ((a3K (a0U r)).2.2=0))
    else if a2y (a3R 61 w).1 (a3R 61 w).2.2 < 0∨((a3R 61 w).1∈met∧(a3R 61 w).1≠a1S)∨(a1y (a2y (a3R 61 w).1 (a3R 61 w).2.2) n (a3R 61 w).2.1).2=false then (Nd.zero,false)
    else a8a r (met++[(a3R 61 w).1]) (a1y (a2y (a3R 61 w).1 (a3R 61 w).2.2) n (a3R 61 w).2.1).1
noncomputable def a2Y (l:List Bs):Nd×Bool:=a8a (l.drop 2) [] ⟨l.getD 1 [],[],false,false,true,0,false,[],[]⟩
def a2W (word:Bs) (m:Mk) (v:Bs):Mk×Bool :=
 if word=c2I then ({ m with val:=(a2U v).getD 0 },(a1v v).isSome)
 else if word=b6f then ({ m with all:=((a0T v).getD (false,[])).1,bars:=((a0T v).getD (false,[])).2 },(a0T v).isSome)
 else (m,false)
def a9C:List Bs→List Bs→Mk→Mk×Bool
  | [],_,m=>(m,true)
  | w :: r, met, m =>
    if (a3R 61 w).2.2=false∨(a2W (a3R 61 w).1 m (a3R 61 w).2.1).2=false∨(a3R 61 w).1∈met then (Mk.zero,false)
    else a9C r (met++[(a3R 61 w).1]) (a2W (a3R 61 w).1 m (a3R 61 w).2.1).1
def a4G (l:List Bs):Mk×Bool:=a9C (l.drop 2) [] ⟨l.getD 1 [],0,false,[]⟩
noncomputable def a1I (d:Dc) (l:List Bs):Dc×Int :=
  if l.length < 2∨a2P (l.getD 1 [])=false then (d,2)
  else if l.getD 0 []=a8T then
    (if (a2Y l).2=false then (d,2) else if (a2Y l).1.name=a4Z∨(d.nodes.any fun o=>decide (o.name=(a2Y l).1.name))=true then (d,9)
     else if d.nodes.length=24 then (d,4) else (⟨d.nodes++[(a2Y l).1],d.marks⟩,0))
  else if l.getD 0 []=b1Y then
    (if (a4G l).2=false then (d,2) else if (d.marks.any fun o=>decide (o.name=(a4G l).1.name))=true then (d,9)
     else if d.marks.length=8 then (d,4) else (⟨d.nodes,d.marks++[(a4G l).1]⟩,0))
  else (d,2)
noncomputable def a3m:List Bs→Nat→Dc→Dc×Int×Int
  | [],_,d=>(d,0,0)
  | s :: r, i, d => match a2a s with
    | none=>(Dc.zero,((i+1:Nat):Int),2)
    | some l=>if l=[] then a3m r (i+1) d else if (a1I d l).2=0 then a3m r (i+1) (a1I d l).1 else (Dc.zero,((i+1:Nat):Int),(a1I d l).2)
noncomputable def a2c (s:Bs):Dc×Int×Int :=
 if (a1A s).2.2≠0 then (Dc.zero,((a1A s).2.1:Int),(a1A s).2.2) else a3m (a1A s).1 0 Dc.zero
theorem b7y (w:Bs) (r:List Bs):(a0U r).length≤(a0U (w::r)).length:=by
 cases r with
 | nil=>exact Nat.zero_le _
 | cons a r=>show _≤(w++32::a0U (a::r)).length;rw [List.length_append,List.length_cons];omega
theorem a6e:∀ (l:List Bs) (k:Nat),(a0U (l.drop k)).length≤(a0U l).length
 | l,0=>Nat.le_refl _
 | [],k+1=>Nat.le_refl _
 | w::r,k+1=>Nat.le_trans (a6e r k) (b7y w r)
theorem a4r (r met:List Bs) (n:Nd):a8a ([58]::r) met n=({ n with leaf:=false,expr:=a5Y (a0U r) },decide ((a3K (a0U r)).2.2=0)):=by
 show (if ([58]:Bs)=[58] then _ else _)=_;rw [if_pos rfl]
theorem a1J {w:Bs} {r met:List Bs} {n:Nd} {W V:Bs} {H:Bool} (hw:w≠[58]) (hc:a3R 61 w=(W,V,H)) (h:a2y W H < 0∨(W∈met∧W≠a1S)∨(a1y (a2y W H) n V).2=false):a8a (w::r) met n=(Nd.zero,false):=by
 show (if w=[58] then _ else if _ then _ else _)=_
 rw [if_neg hw,hc,if_pos h]
theorem a1Y {w:Bs} {r met:List Bs} {n:Nd} {W V:Bs} {H:Bool} (hw:w≠[58]) (hc:a3R 61 w=(W,V,H)) (h:¬ (a2y W H < 0∨(W∈met∧W≠a1S)∨(a1y (a2y W H) n V).2=false)):a8a (w::r) met n=a8a r (met++[W]) (a1y (a2y W H) n V).1:=by
 show (if w=[58] then _ else if _ then _ else _)=_
 rw [if_neg hw,hc,if_neg h]
theorem b6H (W:Bs) (H:Bool) (met:List Bs):a2y W H < 0∨(¬ a2y W H < 0∧W∈met∧W≠a1S)∨(¬ (W∈met∧W≠a1S)∧a2y W H=0)∨(¬ (W∈met∧W≠a1S)∧a2y W H=1)∨(¬ (W∈met∧W≠a1S)∧a2y W H=2)∨(¬ (W∈met∧W≠a1S)∧a2y W H=3)∨(¬ (W∈met∧W≠a1S)∧a2y W H=4):=by
 have hr:a2y W H=-1∨a2y W H=0∨a2y W H=1∨a2y W H=2∨a2y W H=3∨a2y W H=4:=by
  unfold a2y
  by_cases h0:a1S=W∧true=H
  ·rw [if_pos h0];omega
  rw [if_neg h0]
  by_cases h1:c1L=W∧false=H
  ·rw [if_pos h1];omega
  rw [if_neg h1]
  by_cases h2:b3X=W∧false=H
  ·rw [if_pos h2];omega
  rw [if_neg h2]
  by_cases h3:b4b=W∧true=H
  ·rw [if_pos h3];omega
  rw [if_neg h3]
  by_cases h4:a7N=W∧true=H
  ·rw [if_pos h4];omega
  rw [if_neg h4];omega
 by_cases hm:W∈met∧W≠a1S
 ·rcases hr with h | h
  ·exact .inl (by omega)
  ·exact .inr (.inl ⟨by omega,hm⟩)
 ·rcases hr with h | h | h | h | h | h
  ·exact .inl (by omega)
  ·exact .inr (.inr (.inl ⟨hm,h⟩))
  ·exact .inr (.inr (.inr (.inl ⟨hm,h⟩)))
  ·exact .inr (.inr (.inr (.inr (.inl ⟨hm,h⟩))))
  ·exact .inr (.inr (.inr (.inr (.inr (.inl ⟨hm,h⟩)))))
  ·exact .inr (.inr (.inr (.inr (.inr (.inr ⟨hm,h⟩)))))
theorem a4w (W:Bs) (met:List Bs):decide (((W::met).count W:Int) > 1)=decide (W∈met):=by
 rw [decide_eq_decide,List.count_cons_self]
 have:=List.count_pos_iff (a:=W) (l:=met)
 constructor
 ·intro h;exact this.1 (by omega)
 ·intro h;have:=this.2 h;omega
theorem a4h (c:UInt8):∀ s:Bs,(a3R c s).2.1.length≤s.length
  | []=>Nat.le_refl _
  | b :: l => by
    unfold a3R
    split
    · exact Nat.le_succ _
    · exact Nat.le_succ_of_le (a4h c l)
theorem a8W {d:Dc} {l:List Bs} (h:d.nodes.length≤24∧d.marks.length≤8):(a1I d l).1.nodes.length≤24∧(a1I d l).1.marks.length≤8:=by
 unfold a1I
 split
 ·exact h
 ·split
  ·split
   ·exact h
   ·split
    ·exact h
    ·split
     ·exact h
     ·exact ⟨by show (d.nodes++[_]).length≤24;rw [List.length_append,List.length_singleton];omega,h.2⟩
  ·split
   ·split
    ·exact h
    ·split
     ·exact h
     ·split
      ·exact h
      ·exact ⟨h.1,by show (d.marks++[_]).length≤8;rw [List.length_append,List.length_singleton];omega⟩
   ·exact h
theorem a7C {s:Bs} (h:(a1A s).2.2=0):s.length≤65536∧(a1A s).1.length≤65537∧∀ w∈(a1A s).1,w.length≤s.length:=by
 have hl:=a2E 10 s
 unfold a1A at h ⊢
 by_cases h1:65536 < s.length
 ·rw [if_pos h1] at h;exact absurd h (by decide)
 ·rw [if_neg h1] at h ⊢
  by_cases h2:s=[]
  ·rw [if_pos h2];subst h2;exact ⟨by simp,by simp,fun w hw=>by simp at hw⟩
  ·rw [if_neg h2] at h ⊢
   by_cases h3:(a0i 10 s).getLast (a2e 10 s)=[]
   ·rw [if_pos h3]
    exact ⟨by omega,by show (a0i 10 s).dropLast.length≤_;rw [List.length_dropLast];omega,fun w hw=>a3Y (List.dropLast_subset _ hw)⟩
   ·rw [if_neg h3] at h;exact absurd h (by show ¬ (2:Int)=0;decide)
theorem a7v {v:Bs} {wl:List Bs} (h:a2a v=some wl):wl.length≤v.length+1∧∀ w∈wl,w.length≤v.length:=by
 have hl:=a2E 32 v
 unfold a2a at h
 split at h
 ·injection h with h;subst h;exact ⟨Nat.zero_le _,fun w hw=>by cases hw⟩
 ·split at h
  ·injection h with h;subst h;exact ⟨hl,fun w hw=>a3Y hw⟩
  ·cases h
end Go.Proofs.YtjdmfohncgkdoaaGreatDoor
namespace Go.Proofs.YtjdmfohncgkdoaaGreatDoor
set_option linter.unusedSimpArgs false
set_option linter.unusedVariables false
set_option linter.unusedSectionVars false
open Go.RowKit
def BxAt (w:World) (b m:Nat) (ty:TypeId) (v:Value):Prop:=∃ cs,Blk w b ty cs∧cs.size=m∧cs[0]?=some v
@[reducible] def bxO (g:Nat) (ty:TypeId) (v:Value):HObj:=⟨g,1,1,ty,0,fun _ _=>.imm v⟩
structure Mv (b m:Nat) (ty:TypeId) (v:Value) (w w':World):Prop where
 os:w'.os=w.os
 tape:w'.tape=w.tape
 output:w'.output=w.output
 size:w.heap.size≤w'.heap.size
 block:∀ k,k < w.heap.size→k≠b→w'.heap[k]?=w.heap[k]?
 at_:BxAt w' b m ty v
section
variable {K:Nat→Prop} {w0 w w':World} {F0:Addr→Prop} {E E':Env} {h h':Nat→Option HObj}
theorem R.boxAt (r:R K w0 F0 E h w) {id g:Nat} {ty:TypeId} {f:Nat→Nat→HV} {v:Value} (ho:h id=some ⟨g,1,1,ty,0,f⟩) (hf:f 0 0=.imm v):∃ l b,E.L id=some l∧l.g=g∧E.G g∧l.A=some b∧BxAt w b l.cap ty v∧1≤l.cap∧l.cap≤maxLen∧v.oneCell'=true∧∀ k,¬ E.F ⟨b,k,none⟩:=by
 obtain ⟨l,hl,a⟩:=r.obj id _ ho
 rcases a.at_ with ⟨_,_,h0,_⟩ | ⟨b,cs,h1,h2,h3,h4,h5,h6,⟨vs,h8⟩,h9,_⟩ | ⟨_,_,_,_,h3,_⟩
 ·cases h0
 ·obtain ⟨e1,e2,e3⟩:=h8 0 0 (Nat.lt_succ_self 0) (Nat.lt_succ_self 0)
  rw [show (⟨g,1,1,ty,0,f⟩:HObj).f 0 0=.imm v from hf] at e3
  have:=e3.imm_inv
  rw [this] at e1 e2
  exact ⟨l,b,hl,a.g,a.G,h1,⟨cs,h2,by rw [h3];exact Nat.mul_one _,e1⟩,h4,h5,e2,fun k hk=>absurd (h9 k hk) (by show ¬ k < 0 * 1;omega)⟩
 ·cases h3.n
theorem R.mv (r:R K w0 F0 E h w) {id g b:Nat} {ty:TypeId} {v v2:Value} {l:Loc} (ho:h id=some (bxO g ty v)) (hl:E.L id=some l) (hb:l.A=some b) (h1:v2.oneCell'=true) (m:Mv b l.cap ty v2 w w'):Ext w E w' E∧R K w0 F0 E (a2G h id (bxO g ty v2)) w':=by
 obtain ⟨l',b',hl',hlg,hG,hb',_,hc1,hc2,_,hnF⟩:=r.boxAt ho rfl
 rw [hl] at hl';injection hl' with hl';subst hl'
 rw [hb] at hb';injection hb' with hb';subst hb'
 obtain ⟨l2,hl2,a⟩:=r.obj id _ ho
 rw [hl] at hl2;injection hl2 with hl2;subst hl2
 obtain ⟨cs,q1,q2,q3⟩:=m.at_
 have hlt:b < w.heap.size:=a.lt hb
 obtain ⟨w1,hw1⟩:∃ w1:World,w1={ w with heap:=w.heap.setIfInBounds b (.cells cs ty (0,0)) }:=⟨_,rfl⟩
 have hbk:Blk w1 b ty cs:=by unfold Blk;rw [hw1];show (w.heap.setIfInBounds b _)[b]?=_;rw [Array.getElem?_setIfInBounds_self_of_lt hlt]
 have hne:∀ k,k≠b→w1.heap[k]?=w.heap[k]?:=fun k hk=>by rw [hw1];show (w.heap.setIfInBounds b _)[k]?=_;rw [Array.getElem?_setIfInBounds_ne (Ne.symm hk)]
 have hs1:w1.heap.size=w.heap.size:=by rw [hw1];simp
 have hvs:∀ i j,i < 1→j < 1→cs[i * 1+j]?=some v2∧v2.oneCell'=true∧Rep w1 E v2 (.imm v2):=fun i j hi hj=>by
  obtain rfl:i=0:=by omega
  obtain rfl:j=0:=by omega
  exact ⟨q3,h1,.imm _⟩
 obtain ⟨e1,r1⟩:=r.write id _ (bxO g ty v2) l b ho hl hb (by rw [hw1]) (by rw [hw1]) (by rw [hw1]) hs1 hne (fun k hk=>absurd hk (hnF k)) (fun e=>⟨a.g,a.G,a.sz,a.pos,.inr (.inl ⟨b,cs,hb,hbk,by rw [q2];exact (Nat.mul_one _).symm,hc1,hc2,a.notK hb,⟨fun _ _=>v2,hvs⟩,fun k hk=>absurd hk (hnF k),Nat.zero_le _⟩)⟩)
 have hbel:Below w1.heap.size w1 w':=⟨by rw [hw1];exact m.os,by rw [hw1];exact m.tape,by rw [hw1];exact m.output,by rw [hs1];exact m.size,fun k hk=>by
   by_cases hkb:k=b
   ·subst hkb;rw [show w'.heap[k]?=_ from q1,show w1.heap[k]?=_ from hbk]
   ·rw [hne k hkb];exact m.block k (by rw [←hs1];exact hk) hkb⟩
 exact ⟨e1.trans (r1.extBelow hbel),r1.growSame hbel⟩
theorem c3a {b:Nat} (hd:∀ id,(h id).isSome=(h' id).isSome):KH E h b↔KH E h' b:=by
 have one:∀ (h h':Nat→Option HObj),(∀ id,(h id).isSome=(h' id).isSome)→KH E h b→KH E h' b:=fun h h' hd k id o l ho hl=>by
  have:=hd id
  rw [ho] at this
  obtain ⟨o2,ho2⟩:=Option.isSome_iff_exists.1 this
  exact k id o2 l ho2 hl
 exact ⟨one h h' hd,one h' h (fun id=>(hd id).symm)⟩
end
structure ItXB (P:Program) where
 l:Nat
 b:Nat
 m:Nat
 ty:TypeId
 W0:World
 F0:Addr→Prop
 J:Value→Nat→(Nat→Prop)→World→Prop
 Jx:Nat→World→Prop
 N:Nat
 ys:Nat→List HV
 nl:¬ isLib b
 m1:1≤m
 m2:m≤maxLen
 mv:∀ v i O W1 W2 v2,v2.oneCell'=true→J v i O W1→Mv b m ty v2 W1 W2→J v2 i O W2
 ob:∀ v i O W1,J v i O W1→∀ k,O k→k < W1.heap.size
 bx:∀ v i O W1,J v i O W1→O b∧BxAt W1 b m ty v∧v.oneCell'=true
 jxb:∀ i W1 W2,Jx i W1→Below W1.heap.size W1 W2→Jx i W2
 yl:∀ v i O W1 F' vs,i < N→J v i O W1→(∀ a,F' a→a.spot=none∧(W1.cell? a).isSome=true)→(∀ a,F' a→¬ O a.block)→(∀ a,F' a→F0 a∨W0.heap.size≤a.block)→RepAll W1 (Env.just F') vs (ys i) →
   YieldAt Fence.wide 0 P l vs.toArray W1 fun e W'=>KeepsO O W1 W'∧((e=.returned (.bool true)∧∃ O',J v (i+1) O' W'∧∀ k,O' k→O k∨W1.heap.size≤k)∨(e=.returned (.bool false)∧Jx (i+1) W'))
structure FrOkB (P:Program) (X:ItXB P) (W:World) (F:Addr→Prop):Prop where
 frz:∀ a,F a→a.spot=none∧(W.cell? a).isSome=true
 new:∀ a,F a→X.F0 a∨X.W0.heap.size≤a.block
 size:X.W0.heap.size≤W.heap.size
 lib:LibW W
structure GoodB (P:Program) (X:ItXB P) (i:Nat) (O:Nat→Prop) (W:World) (F:Addr→Prop):Prop where
 j:∃ v,X.J v i O W
 fr:FrOkB P X W F
 own:∀ a,F a→¬ O a.block
def a8P (P:Program) (X:ItXB P) (e:Ending) (w:World):Prop:=(∃ v,e=.returned v)∧((∃ v O,X.J v X.N O w)∨∃ i,i < X.N∧X.Jx (i+1) w)
def b4T (P:Program) (f:FuncId) (ty:TypeId) (v0:Value) (cap:HV) (caps:List HV) (N:Nat) (ys:Nat→List HV):Prop:=c1B P f ∧
  ∀ X : ItXB P, X.N = N → X.ys = ys → X.ty = ty → ∀ (cv : Value) (cvs : List Value) (O0 : Nat → Prop), (∀ a, X.F0 a → a.spot = none ∧ (X.W0.cell? a).isSome = true) → (∀ a, X.F0 a → ¬ O0 a.block) → Rep X.W0 (Env.just X.F0) cv cap → RepAll X.W0 (Env.just X.F0) cvs caps → LibW X.W0 →
    X.J v0 0 O0 X.W0→Calls P f (#[.func (.yield X.l) #[] #[],cv,.pointer (some ⟨X.b,0,none⟩)]++cvs.toArray) X.W0 (a8P P X)
def Env.bx (F:Addr→Prop) (b m:Nat):Env:=⟨F,fun id=>if id=6001 then some ⟨0,some b,m,1⟩ else none,fun g=>g=0,fun _=>False⟩
def Ctx.bx (W:World) (F:Addr→Prop) (b m:Nat):Ctx:=⟨fun k=>k≠b,W,Env.bx F b m,[],none,none⟩
section
variable {P:Program} {X:ItXB P} {fn:Func} {Q:Exit→Act→World→Prop} {n clk:Nat} {tm:List (Nat×TV)} {hp:List (Nat×HObj)}
theorem c0N {id:Nat} {o o':HObj} (k:Nat) (h:hget [(id,o)] k=some o'):k=id∧o'=o:=by
 rw [a1g] at h
 unfold a2G at h
 split at h
 ·rename_i e;injection h with h;exact ⟨e,h.symm⟩
 ·cases h
theorem GoodB.start {i:Nat} {O:Nat→Prop} {W:World} {F:Addr→Prop} (g:GoodB P X i O W F) {v:Value} (hB:BxAt W X.b X.m X.ty v) (hv:v.oneCell'=true):R (fun k=>k≠X.b) W F (Env.bx F X.b X.m) (hget [(6001,bxO 0 X.ty v)]) W:=by
 obtain ⟨v',hj⟩:=g.j
 obtain ⟨hO,_,_⟩:=X.bx _ _ _ _ hj
 refine ⟨rfl,rfl,rfl,Nat.le_refl _,fun _ _ _=>rfl,g.fr.frz,fun a ha=>.inl ha,fun b hb e=>X.nl (e▸hb),g.fr.lib,(fun b hb=>hb.elim),fun id o ho=>?_,fun id id' o o' l l' b ho ho' _ _ _ _=>by rw [(c0N _ ho).1,(c0N _ ho').1]⟩
 obtain ⟨rfl,rfl⟩:=c0N _ ho
 obtain ⟨cs,q1,q2,q3⟩:=hB
 refine ⟨⟨0,some X.b,X.m,1⟩,rfl,rfl,rfl,rfl,Nat.lt_succ_self 0,.inr (.inl ⟨X.b,cs,rfl,q1,by rw [q2];exact (Nat.mul_one _).symm,X.m1,X.m2,fun _ h=>h rfl,⟨fun _ _=>v,fun i j hi hj=>?_⟩,fun k hk=>absurd hO (g.own _ hk),Nat.zero_le _⟩)⟩
 obtain rfl:i=0:=by have:i < 1:=hi;omega
 obtain rfl:j=0:=by have:j < 1:=hj;omega
 exact ⟨q3,hv,.imm _⟩
theorem GoodB.mv {i:Nat} {O:Nat→Prop} {W w:World} {F:Addr→Prop} {E:Env} {f:Nat→Nat→HV} {v:Value} {h:Nat→Option HObj} (g:GoodB P X i O W F) (e0:Ext W (Env.bx F X.b X.m) w E) (r:R (fun k=>k≠X.b) W F E h w) (ho:h 6001=some ⟨0,1,1,X.ty,0,f⟩) (hf:f 0 0=.imm v):X.J v i O w∧BxAt w X.b X.m X.ty v∧v.oneCell'=true∧∀ k,¬ E.F ⟨X.b,k,none⟩:=by
 obtain ⟨v',hj⟩:=g.j
 obtain ⟨l,b,hl,hlg,_,hA,hB,_,_,h1,hnF⟩:=r.boxAt ho hf
 have h0:(Env.bx F X.b X.m).L 6001=some l:=e0.L 6001 l hl hlg
 injection h0 with h0
 subst h0
 injection hA with hA
 subst hA
 exact ⟨X.mv v' i O W w v h1 hj ⟨r.os,r.tape,r.output,r.size,fun k hk hne=>r.keep k hk hne,hB⟩,hB,h1,hnF⟩
theorem b5n {w:World} {F:Addr→Prop} {b m:Nat}:Ext w (Env.just F) w (Env.bx F b m):=⟨Nat.le_refl _,fun a h=>⟨h,rfl⟩,fun g h=>False.elim h,fun id l hl hg=>False.elim hg,fun _ h=>h⟩
def TmB (tm tm':List (Nat×TV)):Prop:=∀ t x,tget tm' t=some x→(∃ y z,x=.v z∧tget tm t=some (.v y)∧Fz [] y z)∨(x=.v (.pt 6001 0 0 0)∧tget tm t=some x)
theorem TmB.nil {tm:List (Nat×TV)}:TmB tm []:=fun t x h=>by cases h
theorem TmB.cons {tm r:List (Nat×TV)} {t:Nat} {y z:HV} (h:tget tm t=some (.v y)) (hz:Fz [] y z) (hr:TmB tm r):TmB tm ((t,.v z)::r):=fun t' x h'=>by
 rw [a0z] at h'
 split at h'
 ·rename_i e;subst e;injection h' with h';subst h';exact .inl ⟨y,z,rfl,h,hz⟩
 ·exact hr t' x h'
theorem TmB.box {tm r:List (Nat×TV)} {t:Nat} (h:tget tm t=some (.v (.pt 6001 0 0 0))) (hr:TmB tm r):TmB tm ((t,.v (.pt 6001 0 0 0))::r):=fun t' x h'=>by
 rw [a0z] at h'
 split at h'
 ·rename_i e;subst e;injection h' with h';subst h';exact .inr ⟨rfl,h⟩
 ·exact hr t' x h'
theorem c3g {w:World} {F:Addr→Prop} {b m:Nat}:Rep w (Env.bx F b m) (.pointer (some ⟨b,0,none⟩)) (.pt 6001 0 0 0):=.pt b 0 6001 0 0 0 rfl (fun l hl _=>by injection hl with hl;subst hl;exact ⟨rfl,rfl⟩)
theorem b6s {f:FuncId} {c:Code} {ty:TypeId} {v0:Value} (hf:P.funcs[f]?=some fn) (hb:fn.body=some c) (hn:(fn.name == "runtime.NumGoroutine")=false) (cap:HV) (caps:List HV) (N:Nat) (ys:Nat→List HV) (tm:List (Nat×TV)) (htm:a8g 3 caps=tm) (n:Nat) (hnt:fn.ntmps=n) (hlen:Nat.ble (caps.length+3) n=true)
  (h:∀ X:ItXB P,X.N=N→X.ys=ys→X.ty=ty→∀ O W F,GoodB P X 0 O W F→HWp (Ctx.bx W F X.b X.m) P c ⟨n,(0,.v (.fn (.yield X.l) 0 fun _=>default))::(1,.v cap)::(2,.v (.pt 6001 0 0 0))::tm,[(6001,bxO 0 ty v0)],1⟩ (bodyPost P fn (a8P P X))):b4T P f ty v0 cap caps N ys:=by
 refine ⟨⟨fn,c,hf,hb,hn⟩,fun X hN hys hty cv cvs O0 hF hFO hr0 hr hw hj=>?_⟩
 have g:GoodB P X 0 O0 X.W0 X.F0:=⟨⟨_,hj⟩,⟨hF,fun a ha=>.inl ha,Nat.le_refl _,hw⟩,hFO⟩
 have key:=h X hN hys hty O0 X.W0 X.F0 g
 obtain ⟨hO,hB,h1⟩:=X.bx _ _ _ _ hj
 refine calls_of_wp hf hb (a5v.1 (key _ X.W0 ?_))
 obtain ⟨hl,hg⟩:=hr.get
 have hlen:caps.length+3≤n:=by simpa using hlen
 have hs:=g.start hB h1
 rw [hty] at hs
 refine ⟨Env.bx X.F0 X.b X.m,Ext.refl _ _,hs,fun g hg=>by have:g=0:=hg;show g < 1;omega,?_,rfl,fun t x hx=>?_⟩
 ·simp [hl,hnt];omega
 ·rw [a0z] at hx
  split at hx
  ·rename_i e;subst e;injection hx with hx;subst hx
   have:((#[Value.func (.yield X.l) #[] #[],cv,.pointer (some ⟨X.b,0,none⟩)]++cvs.toArray)++Array.replicate (fn.ntmps - (#[Value.func (.yield X.l) #[] #[],cv,.pointer (some ⟨X.b,0,none⟩)]++cvs.toArray).size) undef).getD 0 undef=.func (.yield X.l) #[] #[]:=by
    simp only [Array.getD_eq_getD_getElem?]
    rw [Array.getElem?_append_left (by simp),Array.getElem?_append_left (by simp)]
    rfl
   show Rep X.W0 _ _ _
   rw [this]
   exact .fn _ _ _ _ (fun _=>undef) rfl (fun i hi=>absurd hi (Nat.not_lt_zero _)) (fun i hi=>absurd hi (Nat.not_lt_zero _))
  ·rw [a0z] at hx
   split at hx
   ·rename_i e;subst e;injection hx with hx;subst hx
    have:((#[Value.func (.yield X.l) #[] #[],cv,.pointer (some ⟨X.b,0,none⟩)]++cvs.toArray)++Array.replicate (fn.ntmps - (#[Value.func (.yield X.l) #[] #[],cv,.pointer (some ⟨X.b,0,none⟩)]++cvs.toArray).size) undef).getD 1 undef=cv:=by
     simp only [Array.getD_eq_getD_getElem?]
     rw [Array.getElem?_append_left (by simp),Array.getElem?_append_left (by simp)]
     rfl
    show Rep X.W0 _ _ _
    rw [this]
    exact hr0.ext b5n
   ·rw [a0z] at hx
    split at hx
    ·rename_i e;subst e;injection hx with hx;subst hx
     have:((#[Value.func (.yield X.l) #[] #[],cv,.pointer (some ⟨X.b,0,none⟩)]++cvs.toArray)++Array.replicate (fn.ntmps - (#[Value.func (.yield X.l) #[] #[],cv,.pointer (some ⟨X.b,0,none⟩)]++cvs.toArray).size) undef).getD 2 undef=.pointer (some ⟨X.b,0,none⟩):=by
      simp only [Array.getD_eq_getD_getElem?]
      rw [Array.getElem?_append_left (by simp),Array.getElem?_append_left (by simp)]
      rfl
     show Rep X.W0 _ _ _
     rw [this]
     exact c3g
    rw [←htm] at hx
    obtain ⟨i,y,rfl,h2,rfl⟩:=a2B caps 3 t x hx
    obtain ⟨v,hv,hrep⟩:=hg i y h2
    have hi:i < cvs.length:=by
     rcases Nat.lt_or_ge i cvs.length with h | h
     ·exact h
     ·rw [List.getElem?_eq_none h] at hv;cases hv
    have:((#[Value.func (.yield X.l) #[] #[],cv,.pointer (some ⟨X.b,0,none⟩)]++cvs.toArray)++Array.replicate (fn.ntmps - (#[Value.func (.yield X.l) #[] #[],cv,.pointer (some ⟨X.b,0,none⟩)]++cvs.toArray).size) undef).getD (3+i) undef=v:=by
     simp only [Array.getD_eq_getD_getElem?]
     rw [Array.getElem?_append_left (by simp;omega),Array.getElem?_append_right (by simp)]
     simp [hv]
    show Rep X.W0 _ _ y
    rw [this]
    exact hrep.ext b5n
theorem c0C {W:World} {F:Addr→Prop} {s:HSt} {O:Nat→Prop} {f:Nat→Nat→HV} {v:Value} {ty:TypeId} {i:Nat} (hXt:X.ty=ty) (hres:fn.results=#[]) (hg:GoodB P X i O W F) (hi:i=X.N) (ho:hget s.hp 6001=some ⟨0,1,1,ty,0,f⟩) (hf:f 0 0=.imm v):HQ (Ctx.bx W F X.b X.m) (bodyPost P fn (a8P P X)) .ret s:=by
 subst hXt;subst hi
 intro a w ⟨E,e0,r,hG,hsz,hdf,ht⟩
 exact ⟨hdf,.tuple #[],by simp [results,hres,go_sem],⟨_,rfl⟩,.inl ⟨v,O,(hg.mv e0 r ho hf).1⟩⟩
theorem b3G {W:World} {F:Addr→Prop} {s:HSt} {i:Nat} (hres:fn.results=#[]) (hi:i < X.N) (h:X.Jx (i+1) W):HQ (Ctx.top W F) (bodyPost P fn (a8P P X)) .ret s:=by
 intro a w ⟨E,e0,r,hG,hsz,hdf,ht⟩
 exact ⟨hdf,.tuple #[],by simp [results,hres,go_sem],⟨_,rfl⟩,.inr ⟨i,hi,X.jxb _ _ _ h (b6e r)⟩⟩
theorem b0H {bty:TypeId} (hXt:X.ty=bty) {ops:Array Oper} {rest:List Oper} {ty:TypeId} {pos:String} {af:Array Edge} {W:World} {F:Addr→Prop} {i:Nat} {O:Nat→Prop} {f:Nat→Nat→HV} {v:Value} (hg:GoodB P X i O W F) (hi:i < X.N) {t d:Nat} {y0:Nat→HV} {args:List Operand} {at_:Array TypeId} {xs:List HV} (tm':List (Nat×TV))
    (h0:tget tm t=some (.v (.fn (.yield X.l) 0 y0))) (hx:a2s (a0M (tget tm)) args xs) (hz:a4z [] xs (X.ys i)) (htm:TmB tm tm') (hlt:Nat.blt d n=true) (ho:hget hp 6001=some ⟨0,1,1,bty,0,f⟩) (hf:f 0 0=.imm v)
    (hyes:∀ O' W' F',GoodB P X (i+1) O' W' F'→HSeq (Ctx.bx W' F' X.b X.m) P ops rest ⟨n,(d,.v (.imm (.bool true)))::tm',[(6001,bxO 0 bty v)],1⟩ Q)
    (hno:∀ W' F',FrOkB P X W' F'→X.Jx (i+1) W'→HSeq (Ctx.top W' F') P ops rest ⟨n,[(d,.v (.imm (.bool false)))],[],0⟩ Q) :
    HSeq (Ctx.bx W F X.b X.m) P ops (⟨some d,.call ⟨.value (.tmp t),args.toArray,at_⟩,ty,pos,af,none⟩::rest) ⟨n,tm,hp,clk⟩ Q:=by
  subst hXt
  intro a w ⟨E,e0,r,hG,hsz,hdf,ht⟩
  have hlt:d < n:=by simpa [Nat.blt_eq] using hlt
  obtain ⟨hjw,hBw,hv1,hnF⟩:=hg.mv e0 r ho hf
  unfold a6G
  rw [if_pos (by simp [Region.wanted])]
  right
  have hrep:=a4M ht hx
  have hfn:Rep w E (a.eval (.tmp t)) (.fn (.yield X.l) 0 y0):=ht t _ h0
  refine ⟨fun _ _=>trivial,?_⟩
  rw [show ∀ o:Oper,o.semAt Fence.wide.round a.eval=execOp a.eval o from fun o=>Oper.semAt_none _ _]
  have hargs:args.toArray.map a.eval=(args.map a.eval).toArray:=by simp
  have hfrz:RepAll w (Env.just E.F) (args.map a.eval) (X.ys i):=hz.sound (a4X w E) hrep
  have hbne:∀ p,E.F p→p.block≠X.b:=fun p hp e=>by
    obtain ⟨pb,po,ps⟩:=p
    have hs:=(r.frz _ hp).1
    simp only at hs e
    subst hs;subst e
    exact hnF po hp
  have hnew:∀ p,E.F p→F p∨W.heap.size≤p.block:=fun p hp=>by
    rcases r.fnew p hp with h1 | h1 | h1
    · exact .inl h1
    · exact .inr h1
    · exact absurd (hbne p hp) h1
  have hown:∀ p,E.F p→¬ O p.block:=fun p hp=>by
    rcases hnew p hp with h1 | h1
    · exact hg.own p h1
    · intro hO
      obtain ⟨v',hj⟩:=hg.j
      have:=X.ob _ _ _ _ hj _ hO
      omega
  have hnew2:∀ p,E.F p→X.F0 p∨X.W0.heap.size≤p.block:=fun p hp=>by
    rcases hnew p hp with h1 | h1
    · exact hg.fr.new p h1
    · exact .inr (Nat.le_trans hg.fr.size h1)
  obtain ⟨fn',tmps',as',bd',hy,hround⟩:=X.yl v i O w E.F (args.map a.eval) hi hjw r.frz hown hnew2 hfrz
  unfold execOp
  generalize hρ:a.eval (.tmp t)=u at hfn
  cases hfn with
  | fn _ vcs _ _ vs hn hv hr =>
    have hvc:vcs=#[]:=Array.eq_empty_of_size_eq_zero hn
    subst hvc
    simp only [resolve,hρ,Deferred.ofValue,invoke,Sem.run_bind,Sem.run_pure,Result.andThen_ok,Array.empty_append,Array.append_empty]
    rw [hargs,hy]
    refine ⟨a5p,RoundIn.mono hround (fun e W' he=>?_)⟩
    obtain ⟨hk,he⟩:=he
    have hfr':FrOkB P X W' E.F:=⟨fun p hp=>⟨(r.frz p hp).1,by rw [World.cell?_of_block (hk.block _ (a1i (r.frz p hp).2) (hown p hp))];exact (r.frz p hp).2⟩,hnew2,Nat.le_trans hg.fr.size (Nat.le_trans r.size hk.size),hk.lib⟩
    have eK:Ext w (Env.just E.F) W' (Env.just E.F):=⟨hk.size,fun p hp=>⟨hp,World.cell?_of_block (hk.block _ (a1i (r.frz p hp).2) (hown p hp))⟩,fun _ h=>h,fun _ _ h _=>h,fun _ h=>h⟩
    rcases he with ⟨rfl,O',hj,hoo⟩ | ⟨rfl,hj⟩
    · have g':GoodB P X (i+1) O' W' E.F:=⟨⟨v,hj⟩,hfr',fun p hp hO=>by
        rcases hoo _ hO with h1 | h1
        · exact hown p hp h1
        · have:=a1i (r.frz p hp).2;omega⟩
      refine hyes O' W' E.F g' _ W' ⟨Env.bx E.F X.b X.m,Ext.refl _ _,g'.start (X.bx _ _ _ _ hj).2.1 hv1,fun g hg=>by have:g=0:=hg;show g < 1;omega,by simp [Act.put,hsz],hdf,fun t' x hx=>?_⟩
      rw [a0z] at hx
      split at hx
      · rename_i e;subst e;injection hx with hx;subst hx
        rw [a0O (by rw [hsz];exact hlt)]
        exact .imm _
      · rename_i e
        rw [a0F e]
        rcases htm t' x hx with ⟨y,z,rfl,h1,h2⟩ | ⟨rfl,h1⟩
        · exact ((h2.sound (a4X w E) (ht t' _ h1)).ext eK).ext b5n
        · have hp:Rep w E (a.tmps.getD t' undef) (.pt 6001 0 0 0):=ht t' _ h1
          obtain ⟨l,b,hl,hlg,_,hA,_⟩:=r.boxAt ho hf
          have hl0:(Env.bx F X.b X.m).L 6001=some l:=e0.L 6001 l hl hlg
          injection hl0 with hl0
          subst hl0
          generalize a.tmps.getD t' undef=u2 at hp
          show Rep _ _ u2 (.pt 6001 0 0 0)
          cases hp with
          | pt b2 k _ _ _ _ _ h5 =>
            obtain ⟨e1,e2⟩:=h5 _ hl rfl
            injection e1 with e1
            subst e1
            subst e2
            exact c3g
    · refine hno W' E.F hfr' hj _ W' ⟨Env.just E.F,Ext.refl _ _,⟨rfl,rfl,rfl,Nat.le_refl _,fun _ _ _=>rfl,hfr'.frz,fun a ha=>.inl ha,fun _ _=>trivial,hfr'.lib,(fun b hb=>hb.elim),(fun id o ho=>by cases ho),(fun id id' o o' l l' b ho=>by cases ho)⟩,fun g hg=>hg.elim,by simp [Act.put,hsz],hdf,fun t' x hx=>?_⟩
      rw [a0z] at hx
      split at hx
      · rename_i e;subst e;injection hx with hx;subst hx
        rw [a0O (by rw [hsz];exact hlt)]
        exact .imm _
      · cases hx
theorem b8n {α:Type} {body:Code} {W:World} {F:Addr→Prop} {O:Nat→Prop} {tm0:List (Nat×TV)} {hp0:List (Nat×HObj)} {c0:Nat} (st:α→List (Nat×TV)) (hps:α→List (Nat×HObj)) (I:α→Prop) (idx:α→Nat) (m:α→Nat) (x0:α) (h0:I x0) (hg0:GoodB P X (idx x0) O W F) (hs0:a6Y (Ctx.bx W F X.b X.m) ⟨n,tm0,hp0,c0⟩ ⟨n,st x0,hps x0,c0⟩)
  (round:∀ x O W F c,I x→GoodB P X (idx x) O W F→∀ N:Act→World→Prop,(∀ y O' W' F' c' s',I y→m y < m x→GoodB P X (idx y) O' W' F'→a6Y (Ctx.bx W' F' X.b X.m) s' ⟨n,st y,hps y,c'⟩→HQ (Ctx.bx W' F' X.b X.m) (Exit.then N Q) .normal s')→HWp (Ctx.bx W F X.b X.m) P body ⟨n,st x,hps x,c⟩ (Exit.then N Q)) :
  HWp (Ctx.bx W F X.b X.m) P (.loop body) ⟨n,tm0,hp0,c0⟩ Q:=by
 intro a w hs
 refine a5c (fun k a w=>∃ x O W F c,m x=k∧I x∧GoodB P X (idx x) O W F∧Sat (Ctx.bx W F X.b X.m) ⟨n,st x,hps x,c⟩ a w) (m x0) ⟨x0,O,W,F,c0,rfl,h0,hg0,hs0 a w hs⟩ ?_
 rintro k a w ⟨x,O,W,F,c,rfl,hx,hg,hs⟩
 exact round x O W F c hx hg (fun a' w'=>∃ j,j < m x∧∃ y O W F c,m y=j∧I y∧GoodB P X (idx y) O W F∧Sat (Ctx.bx W F X.b X.m) ⟨n,st y,hps y,c⟩ a' w') (fun y O' W' F' c' s' hy hlt hg' hsub a w hs=>⟨m y,hlt,y,O',W',F',c',rfl,hy,hg',hsub a w hs⟩) a w hs
end
section
variable {α:Type} {P:Program} {C:Ctx} {Q:Exit→Act→World→Prop} {n clk:Nat} {tm:List (Nat×TV)} {hp:List (Nat×HObj)} {ps:Array Tmp} {assign body:Code} {N:Nat} {ys:Nat→List HV}
theorem b6U {t bid gb:Nat} {f:FuncId} {m:Nat} {cfs:Nat→HV} {c0 cap:HV} {cs caps:List HV} {ty:TypeId} {v0:Value} (hC:C.rd=none∧C.ds=[]∧C.mks=some C.w0.heap.size)
    (hit:b4T P f ty v0 cap caps N ys) (ht:tget tm t=some (.v (.fn (.func f) m cfs))) (hcs:(c0::HV.pt bid gb 0 0::cs).length=m) (hci:∀ i,i < m→(c0::HV.pt bid gb 0 0::cs)[i]?=some (cfs i)) (hz0:Fz [] c0 cap) (hz:a4z [] cs caps)
    (hV:b4N tm=true) (hps:∀ i,(ys i).length=ps.size) (hpb:ps.toList.all (fun p=>Nat.blt p n)=true)
    (st:α→List (Nat×HObj)) (idx:α→Nat) (I:α→Prop) (x0:α) (h0:I x0) (hi0:idx x0=0) (hs0:a0j hp ((bid,bxO gb ty v0)::st x0)) (hfl:((st x0).all fun p=>p.2.fl == 0||Nat.blt p.2.n p.2.fl)=true)
    (round:∀ x v c,I x→idx x < N→b9w P assign body ⟨n,psl ps.toList (ys (idx x)) tm,(bid,bxO gb ty v)::st x,c⟩ (fun C2=>RQ C2 (fun hp' _=>∃ y,I y∧idx y=idx x+1∧a0j hp' ((bid,bxO gb ty v)::st y)) (fun e hp' c'=>HQ C Q e ⟨n,tm,hp',c'⟩)))
    (done:∀ x v c,I x→idx x=N→HQ C Q .normal ⟨n,tm,(bid,bxO gb ty v)::st x,c⟩):HWp C P (.rangeFunc (.tmp t) ps assign body) ⟨n,tm,hp,clk⟩ Q:=by
  intro a w ⟨E,e0,r,hG,hsz,hdf,htm⟩
  have hfn:Rep w E (a.eval (.tmp t)) (.fn (.func f) m cfs):=htm t _ ht
  rw [hC.1]
  refine wpIn_rangeFunc fun fn _=>?_
  generalize hρ:a.eval (.tmp t)=u at hfn
  cases hfn with
  | fn _ vcs _ _ vs hn hv hr =>
    have hcap:=b3C hn hv hr hcs hci
    obtain ⟨uc,u0,us,huu,huc,hu0,hus⟩:∃ uc u0 us,vcs.toList=uc::u0::us∧Rep w E uc c0∧Rep w E u0 (.pt bid gb 0 0)∧RepAll w E us cs:=by
      cases hvl:vcs.toList with
      | nil=>rw [hvl] at hcap;exact hcap.elim
      | cons uc us =>
        rw [hvl] at hcap
        cases us with
        | nil=>exact hcap.2.elim
        | cons u0 us=>exact ⟨uc,u0,us,rfl,hcap.1,hcap.2.1,hcap.2.2⟩
    obtain ⟨rec,hrec⟩:∃ rec:LoopState→Option Code→Loop,rec=fun s p=>{ state:=s,pending:=p,fn,tmps:=a.tmps,params:=ps,assign,body,defers:=w.heap.size }:=⟨_,rfl⟩
    obtain ⟨W1,hW1⟩:∃ W1,(w.alloc (.deferred (some []))).alloc (.loop (rec .ready none))=W1:=⟨_,rfl⟩
    have hbel:Below w.heap.size w W1:=by rw [←hW1];exact (((Below.refl _ w).alloc (Nat.le_refl _) _).alloc (by simp) _)
    have hD1:W1.heap[w.heap.size]?=some (.deferred (some [])):=by
      rw [←hW1];exact (Below.heap_alloc _ _ _ (by simp)).trans (World.alloc_heap_new w _)
    have hL1:W1.heap[w.heap.size+1]?=some (.loop (rec .ready none)):=by
      rw [←hW1];have:=World.alloc_heap_new (w.alloc (.deferred (some []))) (.loop (rec .ready none));rwa [World.size_alloc] at this
    have e1:Ext w E W1 (E.mark w.heap.size):=(r.extBelow hbel).trans (Ext.mark _ _ _)
    have r1:R C.K C.w0 C.E0.F (E.mark w.heap.size) (hget hp) W1:=(r.growSame hbel).mark hD1
    have hw0:C.w0.heap.size≤w.heap.size+1:=Nat.le_succ_of_le r.size
    have r1':=r1.weak hs0
    have hbid:∀ (v:Value) (q:List (Nat×HObj)),hget ((bid,bxO gb ty v)::q) bid=some (bxO gb ty v):=fun v q=>by rw [a1g,a0Y]
    obtain ⟨lb,b,hlb,hlbg,hlbG,hlbA,hBx0,hm1,hm2,hv01,_⟩:=r1'.boxAt (hbid v0 _) rfl
    have hup:u0=.pointer (some ⟨b,0,none⟩):=by
      cases hu0 with
      | pt b2 k _ _ _ _ _ h5 =>
        obtain ⟨q1,q2⟩:=h5 lb hlb hlbg
        rw [hlbA] at q1;injection q1 with q1
        subst q1;subst q2
        simp
    have hLb:∀ (Ei:Env) (W:World) (lo:Loc),Ext W1 (E.mark w.heap.size) W Ei→Ei.L bid=some lo→lo.g=gb→lo=lb:=fun Ei W lo e hl hg=>by
      have:=e.L bid lo hl (by rw [hg];exact hlbG)
      rw [hlb] at this;injection this with this;exact this.symm
    have hnl:¬ isLib b:=fun hlib=>by
      obtain ⟨l2,hl2,ao⟩:=r1'.obj bid _ (hbid v0 _)
      rw [hlb] at hl2;injection hl2 with hl2;subst hl2
      exact ao.notK hlbA (r1'.lib.ok _ hlib) (r1'.klib _ hlib)
    have hll:b≠w.heap.size+1:=fun e=>by
      obtain ⟨cs0,q1,_⟩:=hBx0
      have q1:W1.heap[b]?=_:=q1
      rw [e,hL1] at q1;cases q1
    refine ⟨w.heap.size+1,[{ target:=.collected w.heap.size,args:=#[] }],W1,{ target:=.fn (.func f) vcs,args:=#[.func (.yield (w.heap.size+1)) #[] #[]] },W1,f,
      #[.func (.yield (w.heap.size+1)) #[] #[]]++vcs,W1,?_,?_,fun _ _=>trivial,?_,a5p,?_⟩
    · rw [←hW1,hrec];exact run_enterLoop_outer _ _ _ _ _
    · simp only [resolve,hρ]
      simp [go_sem]
    · have:=a0Z hit.1 (#[.func (.yield (w.heap.size+1)) #[] #[]]++vcs) W1
      simp only [invoke]
      exact this
    · refine a8u (r:=none) ?_
      have hfr:∀ p,E.F p→p.spot=none∧(W1.cell? p).isSome=true:=fun p hp=>by
        have:=r.frz p hp
        exact ⟨this.1,by rw [(e1.F p hp).2];exact this.2⟩
      have hcap0:Rep W1 (Env.just E.F) uc cap:=hz0.sound (a4X W1 (E.mark w.heap.size)) (huc.ext e1)
      have hcap1:RepAll W1 (Env.just E.F) us caps:=hz.sound (a4X W1 (E.mark w.heap.size)) (hus.ext e1)
      have hfo:∀ p,E.F p→¬ (¬ KH (E.mark w.heap.size) (hget ((bid,bxO gb ty v0)::st x0)) p.block∨p.block=w.heap.size+1):=fun p hp=>by
        rintro (h | h)
        · refine h (r1'.noFl (fun id o ho=>?_) p hp)
          rcases List.mem_cons.1 (a2g ho) with e | hm
          · injection e with _ e;subst e;exact .inl rfl
          · have:=List.all_eq_true.1 hfl _ hm;simpa [Nat.blt_eq] using this
        · exact (r1'.notBk hL1 rfl).1 p hp h
      have hslots:∀ t x,tget tm t=some x→∀ ds,TVRep W1 (E.mark w.heap.size) ⟨a.tmps,ds⟩ (a.tmps.getD t undef) x:=fun t x hx ds=>by
        obtain ⟨z,rfl⟩:=a5R hV t x hx
        exact (htm t _ hx).ext e1
      have hdom:∀ (v v2:Value) (q:List (Nat×HObj)) id,(hget ((bid,bxO gb ty v)::q) id).isSome=(hget ((bid,bxO gb ty v2)::q) id).isSome:=fun v v2 q id=>by
        rw [a1g,a1g];unfold a2G;split <;> rfl
      have hset2:∀ (v v2:Value) (q:List (Nat×HObj)),a2G (hget ((bid,bxO gb ty v)::q)) bid (bxO gb ty v2)=hget ((bid,bxO gb ty v2)::q):=fun v v2 q=>by
        rw [a1g,a1g];funext id;unfold a2G;split <;> rfl
      have hc:=hit.2 ⟨w.heap.size+1,b,lb.cap,ty,W1,E.F,fun v=>Jn C W1 (E.mark w.heap.size) (w.heap.size+1) rec (fun p:α×Value=>(bid,bxO gb ty p.2)::st p.1) (fun p=>idx p.1) (fun p=>I p.1∧p.2=v),
          fun _=>Jxn C W1 (E.mark w.heap.size) (w.heap.size+1) rec (fun e hp' c'=>HQ C Q e ⟨n,tm,hp',c'⟩),N,ys,hnl,hm1,hm2,
          fun v i O W2 W3 v2 h1 hJ hm=>?mv,fun v i O W2 h=>c2O h,fun v i O W2 hJ=>?bx,fun i W2 W3 h hb=>b5Z h hb,
          fun v i O W2 F' vs2 hi hJ q1 q2 q3 hv2=>b1K hrec hw0 hsz hV hslots hps hpb (fun x c hx hi C1 l hC1=>?rd) (Nat.le_trans r.size hbel.size) i O W2 F' vs2 hi hJ q1 q2 q3 hv2⟩ rfl rfl rfl uc us
        (fun b'=>¬ KH (E.mark w.heap.size) (hget ((bid,bxO gb ty v0)::st x0)) b'∨b'=w.heap.size+1) hfr hfo hcap0 hcap1 r1'.libw ⟨(x0,v0),clk,E.mark w.heap.size,hi0,⟨h0,rfl⟩,Ext.refl _ _,r1',hG,hL1,fun b=>Iff.rfl⟩
      case mv =>
        obtain ⟨⟨x,v'⟩,c,Ei,g1,⟨g2,rfl⟩,g3,g4,g5,g6,g7⟩:=hJ
        obtain ⟨lo,b',hlo,hlog,_,hloA,_⟩:=g4.boxAt (hbid v' _) rfl
        obtain rfl:=hLb Ei W2 lo g3 hlo hlog
        rw [hlbA] at hloA;injection hloA with hloA;subst hloA
        obtain ⟨e',r'⟩:=g4.mv (hbid v' _) hlo hlbA h1 hm
        rw [hset2] at r'
        refine ⟨(x,v2),c,Ei,g1,⟨g2,rfl⟩,g3.trans e',r',g5,(hm.block _ (a1p g6) (Ne.symm hll)).trans g6,fun b'=>?_⟩
        rw [g7 b',c3a (hdom v' v2 (st x))]
      case bx =>
        obtain ⟨⟨x,v'⟩,c,Ei,g1,⟨g2,rfl⟩,g3,g4,g5,g6,g7⟩:=hJ
        obtain ⟨lo,b',hlo,hlog,_,hloA,hB,_,_,hone,_⟩:=g4.boxAt (hbid v' _) rfl
        obtain rfl:=hLb Ei W2 lo g3 hlo hlog
        rw [hlbA] at hloA;injection hloA with hloA;subst hloA
        exact ⟨(g7 b).2 (.inl fun hk=>hk bid _ lo (hbid v' _) hlo hlbA),hB,hone⟩
      case rd =>
        obtain ⟨hx,hxv⟩:=hx
        obtain ⟨x,v'⟩:=x
        simp only at hx hxv hi
        subst hxv
        intro N1 hN1
        refine round x v' c hx hi C1 l hC1 N1 (fun s1 hs1=>hN1 s1 (fun C2 hC2 a w hs=>wpIn_mono (hs1 C2 hC2 a w hs) fun e a' w' hq=>?_))
        cases e with
        | normal =>
          obtain ⟨hp',c',⟨y,q1,q2,q3⟩,hrb⟩:=hq
          exact ⟨hp',c',⟨(y,v'),⟨q1,rfl⟩,q2,q3⟩,hrb⟩
        | _=>exact hq
      have harr:#[Value.func (.yield (w.heap.size+1)) #[] #[],uc,.pointer (some ⟨b,0,none⟩)]++us.toArray=#[.func (.yield (w.heap.size+1)) #[] #[]]++vcs:=by
        have:vcs=(uc::Value.pointer (some ⟨b,0,none⟩)::us).toArray:=by rw [←hup,←huu]
        rw [this];simp
      rw [harr] at hc
      refine Calls.mono hc (fun e W2 ⟨⟨v,he⟩,hj⟩=>?_)
      subst he
      have hsat:∀ (hp':List (Nat×HObj)) (c':Nat) (Ei:Env) (W:World),Ext W1 (E.mark w.heap.size) W Ei→R C.K C.w0 C.E0.F Ei (hget hp') W→(∀ g,Ei.G g→g < c')→Sat C ⟨n,tm,hp',c'⟩ { a with defers:=[⟨.collected w.heap.size,#[]⟩]++a.defers } W:=by
        intro hp' c' Ei W e2 r2 hG2
        refine ⟨Ei,e0.trans (e1.trans e2),r2,hG2,hsz,?_,fun t x hx=>?_⟩
        · rw [hC.2.1,hC.2.2] at hdf ⊢
          obtain ⟨Ds,h1,h2,h3⟩:=hdf
          refine ⟨w.heap.size::Ds,by rw [h1];rfl,List.nodup_cons.2 ⟨fun hm=>?_,h2⟩,fun D hD=>?_⟩
          · exact absurd (a1p (r.bks _ (h3 _ hm).1)) (Nat.lt_irrefl _)
          · rcases List.mem_cons.1 hD with rfl | hD
            · exact ⟨e2.M _ (.inr rfl),r.size⟩
            · exact ⟨e2.M _ (e1.M _ (h3 D hD).1),(h3 D hD).2⟩
        · obtain ⟨z,rfl⟩:=a5R hV t x hx
          exact (htm t _ hx).ext (e1.trans e2)
      have hj':(∃ O,Jn C W1 (E.mark w.heap.size) (w.heap.size+1) rec (fun p:α×Value=>(bid,bxO gb ty p.2)::st p.1) (fun p=>idx p.1) (fun p=>I p.1) N O W2)∨∃ i,i < N∧Jxn C W1 (E.mark w.heap.size) (w.heap.size+1) rec (fun e hp' c'=>HQ C Q e ⟨n,tm,hp',c'⟩) W2:=by
        rcases hj with ⟨v,O,x,c,Ei,g1,⟨g2,_⟩,g3⟩ | hj
        · exact .inl ⟨O,x,c,Ei,g1,g2,g3⟩
        · exact .inr hj
      obtain ⟨jump,W3,h1,h2⟩:=b2e hrec hw0 _ hsat (fun x c hx hi=>done x.1 x.2 c hx hi) W2 hj'
      rw [hC.1] at h2
      exact ⟨jump,W3,h1,h2⟩
end
end Go.Proofs.YtjdmfohncgkdoaaGreatDoor
namespace Go.Proofs
open Go.Shelf
def Tryz.lays143_ren:Go.Shelf.Ren:=⟨fun | 143=>78 | 219=>103 | 217=>128 | 225=>129 | 224=>130 | 267=>131 | 266=>150 | 314=>151 | n=>n,fun | 9=>9 | 3=>3 | 4=>4 | 5=>5 | 46=>192 | 146=>209 | 51=>208 | n=>n,fun | 1=>0 | n=>n⟩
theorem Tryz.lays143:Go.Proofs.Lays.n143 Tryz.prog Tryz.lays143_ren:={
 mixed:=by kernel_rfl
 f143:=Tryz.func78.trans (congrArg some (by kernel_rfl))
 f217:=Tryz.func128.trans (congrArg some (by kernel_rfl))
 f219:=Tryz.func103.trans (congrArg some (by kernel_rfl))
 f224:=Tryz.func130.trans (congrArg some (by kernel_rfl))
 f225:=Tryz.func129.trans (congrArg some (by kernel_rfl))
 f266:=Tryz.func150.trans (congrArg some (by kernel_rfl))
 f267:=Tryz.func131.trans (congrArg some (by kernel_rfl))
 f314:=Tryz.func151.trans (congrArg some (by kernel_rfl))
 t3:=Tryz.underlying3
 a3:=Tryz.isAgg3
 z3:=Tryz.sizeOf3
 v3:=Tryz.zeroValue3
 t4:=Tryz.underlying4
 a4:=Tryz.isAgg4
 z4:=Tryz.sizeOf4
 v4:=Tryz.zeroValue4
 t5:=Tryz.underlying5
 a5:=Tryz.isAgg5
 z5:=Tryz.sizeOf5
 v5:=Tryz.zeroValue5
 t9:=Tryz.underlying9
 a9:=Tryz.isAgg9
 z9:=Tryz.sizeOf9
 v9:=Tryz.zeroValue9
 t46:=Tryz.underlying192
 a46:=Tryz.isAgg192
 z46:=Tryz.sizeOf192
 v46:=Tryz.zeroValue192
 t51:=Tryz.underlying208
 a51:=Tryz.isAgg208
 z51:=Tryz.sizeOf208
 v51:=Tryz.zeroValue208
 t146:=Tryz.underlying209
 a146:=Tryz.isAgg209
 z146:=Tryz.sizeOf209
 v146:=Tryz.zeroValue209
 g1:=by kernel_rfl }
open Go.RowKit Go.Lib in
theorem Tryz.strings_Index_one (s:ByteArray) (c:UInt8) (w:World) :
  Calls Tryz.prog 78 #[.string s,.string ⟨#[c]⟩] w fun e w'=>e=.returned (.int .i64 (Lib.indexByte s.data.toList c))∧w'=w:=Any.strings_Index_one Tryz.lays143 s c w
def Tryz.lays145_ren:Go.Shelf.Ren:=⟨fun | 145=>57 | 220=>84 | 219=>103 | 217=>128 | 225=>129 | 224=>130 | 267=>131 | 266=>150 | 314=>151 | n=>n,fun | 9=>9 | 4=>4 | 59=>109 | 3=>3 | 5=>5 | 46=>192 | 146=>209 | 51=>208 | n=>n,fun | 1=>0 | n=>n⟩
theorem Tryz.lays145:Go.Proofs.Lays.n145 Tryz.prog Tryz.lays145_ren:={
 mixed:=by kernel_rfl
 f145:=Tryz.func57.trans (congrArg some (by kernel_rfl))
 f217:=Tryz.func128.trans (congrArg some (by kernel_rfl))
 f219:=Tryz.func103.trans (congrArg some (by kernel_rfl))
 f220:=Tryz.func84.trans (congrArg some (by kernel_rfl))
 f224:=Tryz.func130.trans (congrArg some (by kernel_rfl))
 f225:=Tryz.func129.trans (congrArg some (by kernel_rfl))
 f266:=Tryz.func150.trans (congrArg some (by kernel_rfl))
 f267:=Tryz.func131.trans (congrArg some (by kernel_rfl))
 f314:=Tryz.func151.trans (congrArg some (by kernel_rfl))
 t3:=Tryz.underlying3
 a3:=Tryz.isAgg3
 z3:=Tryz.sizeOf3
 v3:=Tryz.zeroValue3
 t4:=Tryz.underlying4
 a4:=Tryz.isAgg4
 z4:=Tryz.sizeOf4
 v4:=Tryz.zeroValue4
 t5:=Tryz.underlying5
 a5:=Tryz.isAgg5
 z5:=Tryz.sizeOf5
 v5:=Tryz.zeroValue5
 t9:=Tryz.underlying9
 a9:=Tryz.isAgg9
 z9:=Tryz.sizeOf9
 v9:=Tryz.zeroValue9
 t46:=Tryz.underlying192
 a46:=Tryz.isAgg192
 z46:=Tryz.sizeOf192
 v46:=Tryz.zeroValue192
 t51:=Tryz.underlying208
 a51:=Tryz.isAgg208
 z51:=Tryz.sizeOf208
 v51:=Tryz.zeroValue208
 t59:=Tryz.underlying109
 a59:=Tryz.isAgg109
 z59:=Tryz.sizeOf109
 v59:=Tryz.zeroValue109
 t146:=Tryz.underlying209
 a146:=Tryz.isAgg209
 z146:=Tryz.sizeOf209
 v146:=Tryz.zeroValue209
 g1:=by kernel_rfl }
open Go.RowKit Go.Lib in
theorem Tryz.strings_Cut (s sep:ByteArray) (m:Int) (w:World) (hs:s.size < 4294967281) (hm:w.cell? ⟨0,0,none⟩=some (.int .i64 m)) :
  Calls Tryz.prog 57 #[.string s,.string sep] w fun e w'=>e=.returned (.tuple #[.string ⟨(Lib.cut s.data.toList sep.data.toList).1.toArray⟩,.string ⟨(Lib.cut s.data.toList sep.data.toList).2.1.toArray⟩,.bool (Lib.cut s.data.toList sep.data.toList).2.2])∧∃ n,w'=w.drewN n:=Any.strings_Cut Tryz.lays145 s sep m w hs hm
end Go.Proofs
namespace Go.Proofs.YtjdmfohncgkdoaaGreatDoor
set_option linter.unusedSimpArgs false
set_option linter.unusedVariables false
set_option maxRecDepth 100000
open Go.RowKit
theorem b3U (c:UInt8):a0t Tryz.prog 44 [u8V c] (a0x (a2X c)):=by
 have hlt:=c.toNat_lt
 refine a0n Tryz.func44 rfl kr _ _ _ rfl 13 rfl rfl (fun w F=>?_)
 refine ru 21 ?_
 refine rt1 ?_
 exact a1m (by unfold a2X;rw [Bool.eq_iff_iff];simp;omega)
end Go.Proofs.YtjdmfohncgkdoaaGreatDoor
namespace Go.Proofs
open Go.Shelf
def Tryz.lays156_ren:Go.Shelf.Ren:=⟨fun | 156=>49 | 165=>73 | 166=>25 | 169=>28 | 240=>50 | 241=>99 | 276=>74 | 277=>126 | n=>n,fun | 31=>44 | 9=>9 | 3=>3 | 4=>4 | 0=>0 | 20=>20 | 72=>62 | 76=>70 | 70=>59 | 37=>60 | 75=>69 | 127=>96 | 164=>133 | 5=>5 | 80=>74 | n=>n,fun | n=>n⟩
theorem Tryz.lays156:Go.Proofs.Lays.n156 Tryz.prog Tryz.lays156_ren:={
 mixed:=by kernel_rfl
 f156:=Tryz.func49.trans (congrArg some (by kernel_rfl))
 f165:=Tryz.func73.trans (congrArg some (by kernel_rfl))
 f166:=Tryz.func25.trans (congrArg some (by kernel_rfl))
 f169:=Tryz.func28.trans (congrArg some (by kernel_rfl))
 f240:=Tryz.func50.trans (congrArg some (by kernel_rfl))
 f241:=Tryz.func99.trans (congrArg some (by kernel_rfl))
 f276:=Tryz.func74.trans (congrArg some (by kernel_rfl))
 f277:=Tryz.func126.trans (congrArg some (by kernel_rfl))
 t0:=Tryz.underlying0
 a0:=Tryz.isAgg0
 z0:=Tryz.sizeOf0
 v0:=Tryz.zeroValue0
 t3:=Tryz.underlying3
 a3:=Tryz.isAgg3
 z3:=Tryz.sizeOf3
 v3:=Tryz.zeroValue3
 t4:=Tryz.underlying4
 a4:=Tryz.isAgg4
 z4:=Tryz.sizeOf4
 v4:=Tryz.zeroValue4
 t9:=Tryz.underlying9
 a9:=Tryz.isAgg9
 z9:=Tryz.sizeOf9
 v9:=Tryz.zeroValue9
 t20:=Tryz.underlying20
 a20:=Tryz.isAgg20
 z20:=Tryz.sizeOf20
 v20:=Tryz.zeroValue20
 t31:=Tryz.underlying44
 a31:=Tryz.isAgg44
 z31:=Tryz.sizeOf44
 v31:=Tryz.zeroValue44
 t37:=Tryz.underlying60
 a37:=Tryz.isAgg60
 z37:=Tryz.sizeOf60
 v37:=Tryz.zeroValue60
 t70:=Tryz.underlying59
 a70:=Tryz.isAgg59
 z70:=Tryz.sizeOf59
 v70:=Tryz.zeroValue59
 t72:=Tryz.underlying62
 a72:=Tryz.isAgg62
 z72:=Tryz.sizeOf62
 v72:=Tryz.zeroValue62
 t75:=Tryz.underlying69
 a75:=Tryz.isAgg69
 z75:=Tryz.sizeOf69
 v75:=Tryz.zeroValue69
 t76:=Tryz.underlying70
 a76:=Tryz.isAgg70
 z76:=Tryz.sizeOf70
 v76:=Tryz.zeroValue70
 t127:=Tryz.underlying96
 a127:=Tryz.isAgg96
 z127:=Tryz.sizeOf96
 v127:=Tryz.zeroValue96
 t164:=Tryz.underlying133
 a164:=Tryz.isAgg133
 z164:=Tryz.sizeOf133
 v164:=Tryz.zeroValue133 }
theorem Tryz.Builder_Extra_156:Builder.Extra Tryz.prog Tryz.lays156_ren:={
 sizeBuilder:=by kernel_rfl
 liesBuilder:=by kernel_rfl
 t5:=Tryz.underlying5
 a5:=Tryz.isAgg5
 z5:=Tryz.sizeOf5
 v5:=Tryz.zeroValue5
 infoByte:=by kernel_rfl
 cellsByte:=by kernel_rfl
 sizeByte:=by kernel_rfl
 neB5:=by decide }
open Go.RowKit in
theorem Tryz.strings_Join_none (a:Option Addr) (c:Nat) (sep:ByteArray) (w:World) :
  Calls Tryz.prog 49 #[.slice a 0 c,.string sep] w fun e w'=>e=.returned (.string ⟨#[]⟩)∧w'=w:=Any.strings_Join_none Tryz.lays156 Tryz.Builder_Extra_156 a c sep w
open Go.RowKit in
theorem Tryz.strings_Join (bk o c:Nat) (xs:List ByteArray) (sep:ByteArray) (w:World) (hcells:∀ (j:Nat) x,xs[j]?=some x→w.cell? ⟨bk,o+j,none⟩=some (.string x)) (hbk:bk < w.heap.size) (hN:xs.length≤140737488355328) (hcap:xs.length≤c) (hlen:(Lib.join (xs.map (·.data.toList)) sep.data.toList).length≤140737488355328) :
  Calls Tryz.prog 49 #[.slice (some ⟨bk,o,none⟩) xs.length c,.string sep] w fun e w'=>e=.returned (.string ⟨(Lib.join (xs.map (·.data.toList)) sep.data.toList).toArray⟩)∧Below w.heap.size w w':=Any.strings_Join Tryz.lays156 Tryz.Builder_Extra_156 bk o c xs sep w hcells hbk hN hcap hlen
def Tryz.lays146_ren:Go.Shelf.Ren:=⟨fun | 146=>35 | 221=>54 | 268=>76 | 138=>77 | 143=>78 | 195=>100 | 197=>101 | 218=>102 | 219=>103 | 260=>127 | 217=>128 | 225=>129 | 224=>130 | 267=>131 | 266=>150 | 314=>151 | n=>n,fun | 9=>9 | 31=>44 | 3=>3 | 4=>4 | 0=>0 | 105=>166 | 21=>21 | 5=>5 | 46=>192 | 119=>204 | 139=>207 | 138=>206 | 146=>209 | 51=>208 | n=>n,fun | 1=>0 | 3=>1 | 4=>2 | n=>n⟩
theorem Tryz.lays146:Go.Proofs.Lays.n146 Tryz.prog Tryz.lays146_ren:={
 mixed:=by kernel_rfl
 f138:=Tryz.func77.trans (congrArg some (by kernel_rfl))
 f143:=Tryz.func78.trans (congrArg some (by kernel_rfl))
 f146:=Tryz.func35.trans (congrArg some (by kernel_rfl))
 f195:=Tryz.func100.trans (congrArg some (by kernel_rfl))
 f197:=Tryz.func101.trans (congrArg some (by kernel_rfl))
 f217:=Tryz.func128.trans (congrArg some (by kernel_rfl))
 f218:=Tryz.func102.trans (congrArg some (by kernel_rfl))
 f219:=Tryz.func103.trans (congrArg some (by kernel_rfl))
 f221:=Tryz.func54.trans (congrArg some (by kernel_rfl))
 f224:=Tryz.func130.trans (congrArg some (by kernel_rfl))
 f225:=Tryz.func129.trans (congrArg some (by kernel_rfl))
 f260:=Tryz.func127.trans (congrArg some (by kernel_rfl))
 f266:=Tryz.func150.trans (congrArg some (by kernel_rfl))
 f267:=Tryz.func131.trans (congrArg some (by kernel_rfl))
 f268:=Tryz.func76.trans (congrArg some (by kernel_rfl))
 f314:=Tryz.func151.trans (congrArg some (by kernel_rfl))
 t0:=Tryz.underlying0
 a0:=Tryz.isAgg0
 z0:=Tryz.sizeOf0
 v0:=Tryz.zeroValue0
 t3:=Tryz.underlying3
 a3:=Tryz.isAgg3
 z3:=Tryz.sizeOf3
 v3:=Tryz.zeroValue3
 t4:=Tryz.underlying4
 a4:=Tryz.isAgg4
 z4:=Tryz.sizeOf4
 v4:=Tryz.zeroValue4
 t5:=Tryz.underlying5
 a5:=Tryz.isAgg5
 z5:=Tryz.sizeOf5
 v5:=Tryz.zeroValue5
 t9:=Tryz.underlying9
 a9:=Tryz.isAgg9
 z9:=Tryz.sizeOf9
 v9:=Tryz.zeroValue9
 t21:=Tryz.underlying21
 a21:=Tryz.isAgg21
 z21:=Tryz.sizeOf21
 v21:=Tryz.zeroValue21
 t31:=Tryz.underlying44
 a31:=Tryz.isAgg44
 z31:=Tryz.sizeOf44
 v31:=Tryz.zeroValue44
 t46:=Tryz.underlying192
 a46:=Tryz.isAgg192
 z46:=Tryz.sizeOf192
 v46:=Tryz.zeroValue192
 t51:=Tryz.underlying208
 a51:=Tryz.isAgg208
 z51:=Tryz.sizeOf208
 v51:=Tryz.zeroValue208
 t105:=Tryz.underlying166
 a105:=Tryz.isAgg166
 z105:=Tryz.sizeOf166
 v105:=Tryz.zeroValue166
 t119:=Tryz.underlying204
 a119:=Tryz.isAgg204
 z119:=Tryz.sizeOf204
 t138:=Tryz.underlying206
 a138:=Tryz.isAgg206
 z138:=Tryz.sizeOf206
 v138:=Tryz.zeroValue206
 t139:=Tryz.underlying207
 a139:=Tryz.isAgg207
 z139:=Tryz.sizeOf207
 v139:=Tryz.zeroValue207
 t146:=Tryz.underlying209
 a146:=Tryz.isAgg209
 z146:=Tryz.sizeOf209
 v146:=Tryz.zeroValue209
 g1:=by kernel_rfl
 g3:=by kernel_rfl
 g4:=by kernel_rfl }
open Go.RowKit Go.Lib in
theorem Tryz.strings_Split (s sep:ByteArray) (m:Int) (w:World) (hs:s.size < 4294967281) (hm:w.cell? ⟨0,0,none⟩=some (.int .i64 m)) (h1:1≤sep.size) :
  Calls Tryz.prog 35 #[.string s,.string sep] w fun e w' =>
   e=.returned (.slice (some ⟨w.heap.size,0,none⟩) (Lib.countB s sep+1) (Lib.countB s sep+1))∧w'=w.alloc (.cells ((Lib.splitB sep 0 (Lib.countB s sep) s).map Value.string).toArray 9):=Any.strings_Split Tryz.lays146 (by kernel_rfl) s sep m w hs hm h1
end Go.Proofs
namespace Go.Proofs.YtjdmfohncgkdoaaGreatDoor
set_option linter.unusedSimpArgs false
set_option linter.unusedVariables false
set_option maxRecDepth 100000
open Go.RowKit
def c1l (w:List UInt8):List Value:=[.string ⟨w.toArray⟩]
@[reducible] def a1a (ls:List (List UInt8)):HV:=.sl 1 ls.length (fun i _=>a0r (ls.getD i []))
theorem b3l (w:List UInt8) (j:Nat) (h:j < 1):a0r w=.imm ((c1l w).getD j undef):=by
 match j,h with | 0,_=>rfl
theorem b9P (x:List UInt8):∀ u∈c1l x,u.oneCell'=true:=by
 intro u hu
 simp [c1l] at hu
 subst hu;rfl
@[reducible] def b3E (o:Option (List (List UInt8))):HV:=t2 (a1a (o.getD [])) (a0g (if o.isSome then 0 else 2))
@[reducible] def b6I (x:List (List UInt8)×Nat×Int):HV:=t3 (a1a x.1) (a0g x.2.1) (a0g x.2.2)
theorem a6u (l:List UInt8) (c:UInt8):(Lib.splitB ⟨#[c]⟩ 0 (Lib.countB ⟨l.toArray⟩ ⟨#[c]⟩) ⟨l.toArray⟩)=(a0i c l).map (fun w=>⟨w.toArray⟩):=by
 have h1:=Lib.splitB_data ⟨#[c]⟩ 0 (Lib.countB ⟨l.toArray⟩ ⟨#[c]⟩) ⟨l.toArray⟩
 have h2:Lib.countB ⟨l.toArray⟩ ⟨#[c]⟩=Lib.count l [c]:=rfl
 have h3:(Lib.splitB ⟨#[c]⟩ 0 (Lib.countB ⟨l.toArray⟩ ⟨#[c]⟩) ⟨l.toArray⟩).map (·.data.toList)=a0i c l:=by
  rw [h1,h2];exact b4W c l
 rw [←h3,List.map_map]
 have:((fun w:List UInt8=>(⟨w.toArray⟩:ByteArray))∘fun x:ByteArray=>x.data.toList)=id:=by
  funext x;cases x;rfl
 rw [this,List.map_id]
theorem b5k (l:List UInt8) (c:UInt8) (hl:l.length≤1000000):a0t Tryz.prog 35 [a0r l,a0r [c]] (a1a (a0i c l)):=by
 refine ⟨⟨_,_,Tryz.func35,rfl,by kernel_rfl⟩,fun w F vs hF hr hw=>?_⟩
 obtain ⟨u,v,rfl,hu,hv⟩:=c2v hr
 rw [hu.imm_inv,hv.imm_inv]
 obtain ⟨m,hm⟩:=hw.max 0 (by kernel_rfl)
 refine (Tryz.strings_Split ⟨l.toArray⟩ ⟨#[c]⟩ m w (by rw [a2r];omega) hm (Nat.le_refl 1)).mono ?_
 rintro e w' ⟨rfl,rfl⟩
 have hlen:Lib.countB ⟨l.toArray⟩ ⟨#[c]⟩+1=(a0i c l).length:=by
  have:=Lib.splitB_all ⟨#[c]⟩ (Nat.le_refl 1) 0 _ ⟨l.toArray⟩ rfl
  rw [a6u,List.length_map] at this
  exact this.symm
 rw [hlen,a6u]
 refine b4e hF (fun w _=>a0r w) b3l b9P [] (e:=9) (l:=a0i c l) ⟨_,_,rfl,⟨fun _=>rfl,?_⟩,(Below.refl _ _).alloc (Nat.le_refl _) _⟩
 have hfl:(a0i c l).flatMap c1l=((a0i c l).map (fun w=>(⟨w.toArray⟩:ByteArray))).map Value.string:=by
  rw [List.map_map]
  induction a0i c l with
  | nil=>rfl
  | cons a t ih=>simp [c1l,ih]
 refine ⟨by rw [hfl];simp,.inr ⟨w.heap.size,(a0i c l).length,_,rfl,Nat.le_refl _,Blk.new w _ _,Nat.le_refl _,by have:=a2E c l;unfold maxLen;omega,by simp,by rw [hfl];exact List.take_of_length_le (by simp)⟩⟩
theorem a1X {ls:List (List UInt8)} {k:Nat} (h:k < ls.length):ls.getD k []∈ls:=by
 rw [List.getD_eq_getElem?_getD,List.getElem?_eq_getElem h];exact List.getElem_mem h
theorem b6X (l:List UInt8) (hl:l.length≤1000000):a0t Tryz.prog 17 [a0r l] (b3E (a2a l)):=by
 have hsl:=a2E 32 l
 refine a0n Tryz.func17 rfl kr _ _ _ rfl 33 rfl rfl (fun w F=>?_)
 refine ru 13 ?_
 refine wdc (fun hr0 hc0=>?_) (fun hr0 hc0=>?_)
 ·refine ru 8 ?_
  refine rt2 ?_
  obtain rfl:l=[]:=(by simpa using hc0);exact a1r (.nil 0 1 _ (by decide) none) (.imm _)
 refine ru 5 ?_
 refine cll (b5k l 32 hl) ?_
 refine ru 12 ?_
 refine a0o (α:=Nat) (fun x c=>⟨33,[(12,.v (a1a (a0i 32 l))),(13,.v (a0g (a0i 32 l).length)),(4,.v (a1a (a0i 32 l))),(14,.v (a0g x))],[],c⟩) (fun x=>x≤(a0i 32 l).length∧∀ i,i < x→a3V ((a0i 32 l).getD i [])=true) (fun x=>(a0i 32 l).length - x) (0) (by exact ⟨Nat.zero_le _,fun i h=>absurd h (Nat.not_lt_zero _)⟩) (a0c rfl (Nat.le_refl _) tsa a0j.nil) (fun k c hx NhL1 hL1=>?_)
 (try dsimp only at hx hL1 ⊢)
 obtain ⟨hk,hok⟩:=hx
 refine ru 6 ?_
 refine wdc (fun hr1 hc1=>?_) (fun hr1 hc1=>?_)
 ·refine ru 18 ?_
  refine wdc (fun hr2 hc2=>?_) (fun hr2 hc2=>?_)
  ·refine ru 10 ?_
   refine a0f ?_
   refine ru 2 ?_
   refine rt2 ?_
   have e:a2a l=none:=a5C (by simpa using hc0) (a1X om) (w:=(a0i 32 l).getD k []) (by have h2:(a0i 32 l).getD k []=[]:=(by simpa using hc2);rw [h2];rfl);rw [e];exact a1r (.nil 0 1 _ (by decide) none) (.imm _)
  refine ru 3 ?_
  have hpk:=b5S (a1X (ls:=a0i 32 l) (k:=k) om)
  refine ru 7 ?_
  refine a0o (α:=Nat) (fun x c=>⟨33,[(12,.v (a1a (a0i 32 l))),(13,.v (a0g (a0i 32 l).length)),(4,.v (a1a (a0i 32 l))),(14,.v (a0g k)),(6,.v (a0r ((a0i 32 l).getD k []))),(21,.v (a0g ((a0i 32 l).getD k []).length)),(22,.v (a0g x))],[],c⟩) (fun x=>x≤((a0i 32 l).getD k []).length∧∀ i,i < x→a2X (((a0i 32 l).getD k []).getD i 0)=true) (fun x=>((a0i 32 l).getD k []).length - x) (0) (by exact ⟨Nat.zero_le _,fun i h=>absurd h (Nat.not_lt_zero _)⟩) (a0c rfl (Nat.le_refl _) tsa a0j.nil) (fun j c hx NhL2 hL2=>?_)
  (try dsimp only at hx hL2 ⊢)
  obtain ⟨hj,hpl⟩:=hx
  refine ru 6 ?_
  refine wdc (fun hr3 hc3=>?_) (fun hr3 hc3=>?_)
  ·refine ru 15 ?_
   refine cll (c0o (((a0i 32 l).getD k []).getD j 0) _ rfl) ?_
   refine ru 3 ?_
   refine wdc (fun hr4 hc4=>?_) (fun hr4 hc4=>?_)
   ·refine ru 9 ?_
    refine a0f ?_
    refine ru 3 ?_
    refine a0f ?_
    refine ru 2 ?_
    refine rt2 ?_
    have e:a2a l=none:=a5C (by simpa using hc0) (a1X om) (w:=(a0i 32 l).getD k []) (b5P (j:=j) om (by simpa using hc4));rw [e];exact a1r (.nil 0 1 _ (by decide) none) (.imm _)
   refine ru 7 ?_
   exact hL2 (j+1) _ _ (by (try dsimp only);exact ⟨by omega,fun i hi=>by rcases Nat.lt_or_ge i j with h | h;exact hpl i h;have:i=j:=om;subst this;simpa using hc4⟩) (by (try dsimp only);omega) (a0c rfl (Nat.le_refl _) tsa a0j.nil)
  refine ru 2 ?_
  refine a0d ?_
  refine ru 7 ?_
  exact hL1 (k+1) _ _ (by (try dsimp only);exact ⟨by omega,fun i hi=>by rcases Nat.lt_or_ge i k with h | h;exact hok i h;have:i=k:=om;subst this;exact b2t hc2 (fun j hj=>hpl j om)⟩) (by (try dsimp only);omega) (a0c rfl (Nat.le_refl _) tsa a0j.nil)
 refine ru 2 ?_
 refine a0d ?_
 refine ru 10 ?_
 refine rt2 ?_
 have e:a2a l=some (a0i 32 l):=a8I (by simpa using hc0) (fun w hw=>by obtain ⟨i,hi,rfl⟩:=List.getElem_of_mem hw;have:=hok i om;simpa [List.getD_eq_getElem?_getD,hi] using this);rw [e];exact a1r Frz.fz (.imm _)
theorem a9y {ls:List (List UInt8)} {i:Nat} (h:i < ls.length - 1):ls.dropLast.getD i []=ls.getD i []:=by
 have h2:i < ls.length:=by omega
 simp [List.getD_eq_getElem?_getD,List.getElem?_dropLast,h,h2]
theorem b1Z {sh:List (Nat×HObj)} {n:Nat} {f:Nat→Nat→HV} (ls:List (List UInt8)) (hn:n=ls.length) (hf:∀ i,i < ls.length→f i 0=a0r (ls.getD i [])):Fz sh (.sl 1 n f) (a1a ls):=by
 subst hn
 refine .sl _ _ _ _ fun i j hi hj=>?_
 obtain rfl:j=0:=by omega
 rw [hf i hi];exact .imm _
theorem b5W (ls:List (List UInt8)) (h:ls≠[]):ls.getD (ls.length - 1) []=ls.getLast h:=by
 rw [List.getLast_eq_getElem,List.getD_eq_getElem?_getD,List.getElem?_eq_getElem (by have:=List.length_pos_iff.2 h;omega)];rfl
theorem c0I (l:List UInt8) (hl:l.length≤1000000):a0t Tryz.prog 16 [a0r l] (b6I (a1A l)):=by
 have hsl:=a2E 10 l
 have hs0:=List.length_pos_iff.2 (a2e 10 l)
 refine a0n Tryz.func16 rfl kr _ _ _ rfl 28 rfl rfl (fun w F=>?_)
 refine ru 15 ?_
 refine wdc (fun hr0 hc0=>?_) (fun hr0 hc0=>?_)
 ·refine ru 9 ?_
  refine rt3 ?_
  have e:a1A l=([],0,4):=(by unfold a1A;rw [if_pos om]);rw [e];exact a1q (.nil 0 1 _ (by decide) none) (.imm _) (.imm _)
 refine ru 9 ?_
 refine wdc (fun hr1 hc1=>?_) (fun hr1 hc1=>?_)
 ·refine ru 9 ?_
  refine rt3 ?_
  obtain rfl:l=[]:=(by simpa using hc1);exact a1q (.nil 0 1 _ (by decide) none) (.imm _) (.imm _)
 refine ru 5 ?_
 refine cll (b5k l 10 hl) ?_
 refine ru 18 ?_
 refine rvl (a0r ((a0i 10 l).getLast (a2e 10 l))) ((by rw [←b5W,show (a0i 10 l).length - 1=((a0i 10 l).length - 1:Int).toNat from by omega];rfl)) ?_
 refine ru 3 ?_
 refine wdc (fun hr2 hc2=>?_) (fun hr2 hc2=>?_)
 ·refine ru 10 ?_
  refine rt3 ?_
  have e:a1A l=([],(a0i 10 l).length,2):=(by unfold a1A;rw [if_neg om,if_neg (by simpa using hc1),if_neg (by simpa using hc2)]);rw [e];exact a1q (.nil 0 1 _ (by decide) none) (.imm _) (.imm _)
 refine ru 15 ?_
 refine rt3 ?_
 have e:a1A l=((a0i 10 l).dropLast,0,0):=(by unfold a1A;rw [if_neg om,if_neg (by simpa using hc1),if_pos (by simpa using hc2)]);rw [e];exact a1q (b1Z _ (by rw [List.length_dropLast];omega) (fun i hi=>by rw [List.length_dropLast] at hi;show a0r _=a0r _;rw [show Int.toNat 0+i=i from Nat.zero_add i,a9y hi])) (.imm _) (.imm _)
theorem a5e {l:List UInt8} {out:List (List UInt8)} {w:List UInt8} {X:List (List UInt8)} (h0:l≠[]) (h:a0i 32 l=out++w::X) (hw:a3V w=false):a2a l=none:=a5C h0 (by rw [h];simp) hw
theorem b4D (l:List UInt8) (hl:l.length≤10000):a0t Tryz.prog 20 [a0r l] (b3E (a2a l)):=by
 refine a0n Tryz.func20 rfl kr _ _ _ rfl 48 rfl rfl (fun w F=>?_)
 refine ru 23 ?_
 refine a4b 4 4 1 9 ((fun i j=>a0r (([]:List (List UInt8)).getD i []))) rfl (by decide) rfl (c':=1) rfl ?_
 refine a0o (α:=Nat×List (List UInt8)×List UInt8×Nat×Nat) (fun x c=>⟨48,[(0,.v (a0r l)),(5,.v (a0r x.2.2.1)),(6,.v (a0g x.1)),(4,.v (.os 4 x.2.2.2.2 0 x.2.2.2.1))],[(4,⟨x.2.2.2.2,x.2.2.2.1,1,9,0,fun i j=>a0r (x.2.1.getD i [])⟩)],c⟩) (fun x=>a0i 32 l=x.2.1++b0a x.2.2.1 (a0i 32 (l.drop x.1))∧x.2.2.2.1=x.2.1.length∧x.1≤l.length∧x.2.2.2.1+x.2.2.1.length≤x.1∧(∀ q∈x.2.1,a3V q=true)∧x.2.2.1.all a2X=true∧(x.2.2.1=[]→x.1=0∨x.1 < l.length)) (fun x=>l.length - x.1) ((0,[],[],0,0)) (by exact ⟨(a9u 32 l).symm,rfl,Nat.zero_le _,Nat.le_refl _,(fun x h=>by cases h),rfl,fun _=>.inl rfl⟩) (a0c rfl (Nat.le_refl _) tsa hsa) (fun x c hx NhL1 hL1=>?_)
 revert hx hL1;obtain ⟨p,out,w,n,g⟩:=x;intro hx hL1;dsimp only at hx hL1 ⊢
 obtain ⟨hL,hn,hp,hnw,hok,hpl,hw0⟩:=hx
 refine ru 9 ?_
 refine wdc (fun hr0 hc0=>?_) (fun hr0 hc0=>?_)
 ·skip
  have hd:=b1y (l:=l) (p:=p) om;have hne:l≠[]:=(fun h=>by rw [h] at hc0;simp only [List.length_nil] at hc0;omega)
  refine ru 13 ?_
  refine wdc (fun hr1 hc1=>?_) (fun hr1 hc1=>?_)
  ·skip
   have hb:l.getD p 0=32:=b3v (by show _=32;omega);rw [hd,hb,b2R] at hL
   refine ru 14 ?_
   refine wdc (fun hr2 hc2=>?_) (fun hr2 hc2=>?_)
   ·refine ru 11 ?_
    refine a0f ?_
    refine ru 2 ?_
    refine rt2 ?_
    have e:a2a l=none:=(by rcases hc2 with h | h;(have h:=(by simpa using h:w=[]);subst h;exact a5e hne hL rfl);(have h2:l.drop (p+1)=[]:=(List.drop_eq_nil_of_le om);rw [h2] at hL;exact a5C hne (w:=[]) (by rw [hL];simp [a0i]) rfl));rw [e];exact a1r (.nil 0 1 _ (by decide) none) (.imm _)
   have hw1:¬ w=[]:=hc2.1;have hp1:p+1 < l.length:=om
   refine ru 6 ?_
   refine a0p 28 (a0b (id:=28) (hs:=[_]) ei_44.h omx rfl omx ⟨rfl,rfl,rfl,rfl,trivial⟩) rfl rfl a0e rfl rfl (c':=c+1) rfl ?_
   first
   | refine a0p 29 (a0a ei_44.h (by first | exact Nat.le_of_ble_eq_true rfl | omega | (dsimp only;omega) | (simp <;> omega)) rfl (by first | exact Nat.le_of_ble_eq_true rfl | omega | (dsimp only;omega) | (simp <;> omega)) (by first | exact Nat.le_of_ble_eq_true rfl | omega | (dsimp only;omega) | (simp <;> omega)) (a0s rfl (by first | exact Nat.le_of_ble_eq_true rfl | omega | (dsimp only;omega) | (simp <;> omega))) (by first | exact Nat.le_of_ble_eq_true rfl | omega | (dsimp only;omega) | (simp <;> omega)) rfl) rfl rfl (a0h rfl (a0B rfl)) rfl rfl (c':=c+2) rfl ?_
   | refine a0p 29 (a0a ei_44.h (by first | exact Nat.le_of_ble_eq_true rfl | omega | (dsimp only;omega) | (simp <;> omega)) rfl (by first | exact Nat.le_of_ble_eq_true rfl | omega | (dsimp only;omega) | (simp <;> omega)) (by first | exact Nat.le_of_ble_eq_true rfl | omega | (dsimp only;omega) | (simp <;> omega)) (a0D rfl (by first | exact Nat.le_of_ble_eq_true rfl | omega | (dsimp only;omega) | (simp <;> omega))) (by first | exact Nat.le_of_ble_eq_true rfl | omega | (dsimp only;omega) | (simp <;> omega)) rfl) rfl rfl (a0h rfl (a0B rfl)) rfl rfl (c':=c+2) rfl ?_
   | refine a0p 29 (a0a ei_44.h (by first | exact Nat.le_of_ble_eq_true rfl | omega | (dsimp only;omega) | (simp <;> omega)) rfl (by first | exact Nat.le_of_ble_eq_true rfl | omega | (dsimp only;omega) | (simp <;> omega)) (by first | exact Nat.le_of_ble_eq_true rfl | omega | (dsimp only;omega) | (simp <;> omega)) (a0C rfl) (by first | exact Nat.le_of_ble_eq_true rfl | omega | (dsimp only;omega) | (simp <;> omega)) rfl) rfl rfl (a0h rfl a0e) rfl rfl (c':=c+2) rfl ?_
   | refine a0p 29 (a0a ei_44.h (by first | exact Nat.le_of_ble_eq_true rfl | omega | (dsimp only;omega) | (simp <;> omega)) rfl (by first | exact Nat.le_of_ble_eq_true rfl | omega | (dsimp only;omega) | (simp <;> omega)) (by first | exact Nat.le_of_ble_eq_true rfl | omega | (dsimp only;omega) | (simp <;> omega)) (a0u 1 (fun _ _=>default) rfl) (by first | exact Nat.le_of_ble_eq_true rfl | omega | (dsimp only;omega) | (simp <;> omega)) rfl) rfl rfl (a0h rfl a0e) rfl rfl (c':=c+2) rfl ?_
   refine ru 17 ?_
   exact hL1 ((p+1,out++[w],[],n+1,_)) _ _ (by (try dsimp only);exact ⟨by rw [a9u,hL];simp,by simp [hn],by omega,by simp;omega,(fun x h=>by rcases List.mem_append.1 h with h | h;exact hok x h;simp at h;subst h;unfold a3V;rw [hpl];cases x <;> simp_all),rfl,fun _=>.inr om⟩) (by (try dsimp only);omega) (a0c rfl (Nat.le_refl _) tsa (a0j.cons rfl (a5V.of fun i j hi hj=>a8m (l:=out) (k:=[w]) (enc:=fun w _=>a0r w) (d:=[]) hn (fun i j _ _=>.refl _) (b0V (x:=w) (enc:=fun w _=>a0r w) (d:=[]) (fun j hj=>.refl _)) i j (by simp;omega) hj) a0j.nil))
  have hb:¬ l.getD p 0=32:=(fun h=>hc1 (by rw [h];rfl));rw [hd,b5u _ _ _ _ hb] at hL
  refine ru 8 ?_
  refine cll (b3U (l.getD p 0)) ?_
  refine ru 3 ?_
  refine wdc (fun hr3 hc3=>?_) (fun hr3 hc3=>?_)
  ·refine ru 10 ?_
   refine a0f ?_
   refine ru 2 ?_
   refine rt2 ?_
   have e:a2a l=none:=a5e hne hL (by rw [List.append_assoc];exact a8t _ _ _ (by simpa using hc3));rw [e];exact a1r (.nil 0 1 _ (by decide) none) (.imm _)
  refine ru 19 ?_
  exact hL1 ((p+1,out,w++[l.getD p 0],n,g)) _ _ (by (try dsimp only);exact ⟨hL,hn,by omega,by simp;omega,hok,by rw [List.all_append,hpl];simp;simpa using hc3,fun h=>absurd h (by simp)⟩) (by (try dsimp only);omega) (a0c rfl (Nat.le_refl _) (tsr rfl (a0E.cons rfl (c2y (by show w++List.take (((p:Int)+1).toNat - p) (List.drop p l)=_;rw [hd,show ((p:Int)+1).toNat - p=1 from by omega];rfl)) tsa)) hsa)
 refine ru 2 ?_
 refine a0d ?_
 refine ru 9 ?_
 refine wdc (fun hr4 hc4=>?_) (fun hr4 hc4=>?_)
 ·refine ru 8 ?_
  refine rt2 ?_
  obtain rfl:l=[]:=(by simpa using hc4);exact a1r (.nil 0 1 _ (by decide) none) (.imm _)
 refine ru 3 ?_
 have hne:l≠[]:=(by simpa using hc4);obtain rfl:p=l.length:=om;have hw1:¬ w=[]:=(fun h=>by rcases hw0 h with h | h;exact hne (List.eq_nil_of_length_eq_zero h);omega);rw [List.drop_length,b7N] at hL
 refine ru 3 ?_
 refine a0p 46 (a0b (id:=46) (hs:=[_]) ei_44.h omx rfl omx ⟨rfl,rfl,rfl,rfl,trivial⟩) rfl rfl a0e rfl rfl (c':=c+1) rfl ?_
 first
 | refine a0p 47 (a0a ei_44.h (by first | exact Nat.le_of_ble_eq_true rfl | omega | (dsimp only;omega) | (simp <;> omega)) rfl (by first | exact Nat.le_of_ble_eq_true rfl | omega | (dsimp only;omega) | (simp <;> omega)) (by first | exact Nat.le_of_ble_eq_true rfl | omega | (dsimp only;omega) | (simp <;> omega)) (a0s rfl (by first | exact Nat.le_of_ble_eq_true rfl | omega | (dsimp only;omega) | (simp <;> omega))) (by first | exact Nat.le_of_ble_eq_true rfl | omega | (dsimp only;omega) | (simp <;> omega)) rfl) rfl rfl (a0h rfl (a0B rfl)) rfl rfl (c':=c+2) rfl ?_
 | refine a0p 47 (a0a ei_44.h (by first | exact Nat.le_of_ble_eq_true rfl | omega | (dsimp only;omega) | (simp <;> omega)) rfl (by first | exact Nat.le_of_ble_eq_true rfl | omega | (dsimp only;omega) | (simp <;> omega)) (by first | exact Nat.le_of_ble_eq_true rfl | omega | (dsimp only;omega) | (simp <;> omega)) (a0D rfl (by first | exact Nat.le_of_ble_eq_true rfl | omega | (dsimp only;omega) | (simp <;> omega))) (by first | exact Nat.le_of_ble_eq_true rfl | omega | (dsimp only;omega) | (simp <;> omega)) rfl) rfl rfl (a0h rfl (a0B rfl)) rfl rfl (c':=c+2) rfl ?_
 | refine a0p 47 (a0a ei_44.h (by first | exact Nat.le_of_ble_eq_true rfl | omega | (dsimp only;omega) | (simp <;> omega)) rfl (by first | exact Nat.le_of_ble_eq_true rfl | omega | (dsimp only;omega) | (simp <;> omega)) (by first | exact Nat.le_of_ble_eq_true rfl | omega | (dsimp only;omega) | (simp <;> omega)) (a0C rfl) (by first | exact Nat.le_of_ble_eq_true rfl | omega | (dsimp only;omega) | (simp <;> omega)) rfl) rfl rfl (a0h rfl a0e) rfl rfl (c':=c+2) rfl ?_
 | refine a0p 47 (a0a ei_44.h (by first | exact Nat.le_of_ble_eq_true rfl | omega | (dsimp only;omega) | (simp <;> omega)) rfl (by first | exact Nat.le_of_ble_eq_true rfl | omega | (dsimp only;omega) | (simp <;> omega)) (by first | exact Nat.le_of_ble_eq_true rfl | omega | (dsimp only;omega) | (simp <;> omega)) (a0u 1 (fun _ _=>default) rfl) (by first | exact Nat.le_of_ble_eq_true rfl | omega | (dsimp only;omega) | (simp <;> omega)) rfl) rfl rfl (a0h rfl a0e) rfl rfl (c':=c+2) rfl ?_
 refine ru 5 ?_
 refine a4B rfl (a0k rfl) (a0k rfl) [(4,_)] rfl (a0h rfl a0e) ?_
 have e:a2a l=some (out++[w]):=(by rw [a8I hne,hL];intro x h;rw [hL] at h;rcases List.mem_append.1 h with h | h;exact hok x h;simp at h;subst h;unfold a3V;rw [hpl];cases x <;> simp_all);rw [e];exact a1r (a1z (l:=out++[w]) (enc:=fun w _=>a0r w) (d:=[]) (List.mem_cons_self ..) rfl (by simp [hn]) (Nat.le_refl _) (fun i j hi hj=>b5l (l:=out) (k:=[w]) (enc:=fun w _=>a0r w) (d:=[]) hn (fun i j _ _=>.imm _) (fun i j hi hj=>by match i,hi with | 0,_=>exact .imm _) i j hi hj)) (.imm _)
theorem b4n (l:List UInt8) (hl:l.length≤10000):a0t Tryz.prog 19 [a0r l] (b6I (a1A l)):=by
 refine a0n Tryz.func19 rfl kr _ _ _ rfl 38 rfl rfl (fun w F=>?_)
 refine ru 15 ?_
 refine wdc (fun hr0 hc0=>?_) (fun hr0 hc0=>?_)
 ·skip
  exfalso;omega
 refine ru 19 ?_
 refine a4b 5 5 1 9 ((fun i j=>a0r (([]:List (List UInt8)).getD i []))) rfl (by decide) rfl (c':=1) rfl ?_
 refine a0o (α:=Nat×List (List UInt8)×Nat×Nat×Nat) (fun x c=>⟨38,[(0,.v (a0r l)),(6,.v (a0g x.2.2.1)),(7,.v (a0g x.1)),(5,.v (.os 5 x.2.2.2.2 0 x.2.2.2.1))],[(5,⟨x.2.2.2.2,x.2.2.2.1,1,9,0,fun i j=>a0r (x.2.1.getD i [])⟩)],c⟩) (fun x=>a0i 10 l=x.2.1++a0i 10 (l.drop x.2.2.1)∧x.2.2.2.1=x.2.1.length∧x.1≤l.length∧x.2.2.2.1≤x.2.2.1∧x.2.2.1≤x.1∧∀ b∈(l.drop x.2.2.1).take (x.1 - x.2.2.1),b≠10) (fun x=>l.length - x.1) ((0,[],0,0,0)) (by exact ⟨rfl,rfl,Nat.zero_le _,Nat.le_refl _,Nat.le_refl _,(fun b h=>by simp at h)⟩) (a0c rfl (Nat.le_refl _) tsa hsa) (fun x c hx NhL1 hL1=>?_)
 revert hx hL1;obtain ⟨p,out,f,n,g⟩:=x;intro hx hL1;dsimp only at hx hL1 ⊢
 obtain ⟨hL,hn,hp,hnf,hfp,hno⟩:=hx
 refine ru 9 ?_
 refine wdc (fun hr1 hc1=>?_) (fun hr1 hc1=>?_)
 ·refine ru 12 ?_
  refine wdc (fun hr2 hc2=>?_) (fun hr2 hc2=>?_)
  ·skip
   have hb:l.getD p 0=10:=b3v (by show _=10;omega);have hst:=b4i hfp om hno hb;rw [hst] at hL
   refine ru 7 ?_
   refine rvl (a0r ((l.drop f).take (p - f))) (rfl) ?_
   refine a0p 26 (a0b (id:=26) (hs:=[_]) ei_44.h omx rfl omx ⟨rfl,rfl,rfl,rfl,trivial⟩) rfl rfl a0e rfl rfl (c':=c+1) rfl ?_
   first
   | refine a0p 27 (a0a ei_44.h (by first | exact Nat.le_of_ble_eq_true rfl | omega | (dsimp only;omega) | (simp <;> omega)) rfl (by first | exact Nat.le_of_ble_eq_true rfl | omega | (dsimp only;omega) | (simp <;> omega)) (by first | exact Nat.le_of_ble_eq_true rfl | omega | (dsimp only;omega) | (simp <;> omega)) (a0s rfl (by first | exact Nat.le_of_ble_eq_true rfl | omega | (dsimp only;omega) | (simp <;> omega))) (by first | exact Nat.le_of_ble_eq_true rfl | omega | (dsimp only;omega) | (simp <;> omega)) rfl) rfl rfl (a0h rfl (a0B rfl)) rfl rfl (c':=c+2) rfl ?_
   | refine a0p 27 (a0a ei_44.h (by first | exact Nat.le_of_ble_eq_true rfl | omega | (dsimp only;omega) | (simp <;> omega)) rfl (by first | exact Nat.le_of_ble_eq_true rfl | omega | (dsimp only;omega) | (simp <;> omega)) (by first | exact Nat.le_of_ble_eq_true rfl | omega | (dsimp only;omega) | (simp <;> omega)) (a0D rfl (by first | exact Nat.le_of_ble_eq_true rfl | omega | (dsimp only;omega) | (simp <;> omega))) (by first | exact Nat.le_of_ble_eq_true rfl | omega | (dsimp only;omega) | (simp <;> omega)) rfl) rfl rfl (a0h rfl (a0B rfl)) rfl rfl (c':=c+2) rfl ?_
   | refine a0p 27 (a0a ei_44.h (by first | exact Nat.le_of_ble_eq_true rfl | omega | (dsimp only;omega) | (simp <;> omega)) rfl (by first | exact Nat.le_of_ble_eq_true rfl | omega | (dsimp only;omega) | (simp <;> omega)) (by first | exact Nat.le_of_ble_eq_true rfl | omega | (dsimp only;omega) | (simp <;> omega)) (a0C rfl) (by first | exact Nat.le_of_ble_eq_true rfl | omega | (dsimp only;omega) | (simp <;> omega)) rfl) rfl rfl (a0h rfl a0e) rfl rfl (c':=c+2) rfl ?_
   | refine a0p 27 (a0a ei_44.h (by first | exact Nat.le_of_ble_eq_true rfl | omega | (dsimp only;omega) | (simp <;> omega)) rfl (by first | exact Nat.le_of_ble_eq_true rfl | omega | (dsimp only;omega) | (simp <;> omega)) (by first | exact Nat.le_of_ble_eq_true rfl | omega | (dsimp only;omega) | (simp <;> omega)) (a0u 1 (fun _ _=>default) rfl) (by first | exact Nat.le_of_ble_eq_true rfl | omega | (dsimp only;omega) | (simp <;> omega)) rfl) rfl rfl (a0h rfl a0e) rfl rfl (c':=c+2) rfl ?_
   refine ru 15 ?_
   exact hL1 ((p+1,out++[(l.drop f).take (p - f)],p+1,n+1,_)) _ _ (by (try dsimp only);exact ⟨by rw [hL];simp,by simp [hn],by omega,by omega,by omega,(fun b h=>by simp at h)⟩) (by (try dsimp only);omega) (a0c rfl (Nat.le_refl _) tsa (a0j.cons rfl (a5V.of fun i j hi hj=>a8m (l:=out) (k:=[(l.drop f).take (p - f)]) (enc:=fun w _=>a0r w) (d:=[]) hn (fun i j _ _=>.refl _) (b0V (x:=(l.drop f).take (p - f)) (enc:=fun w _=>a0r w) (d:=[]) (fun j hj=>.refl _)) i j (by simp;omega) hj) a0j.nil))
  have hb:l.getD p 0≠10:=(fun h=>hc2 (by rw [h];rfl))
  refine ru 8 ?_
  exact hL1 ((p+1,out,f,n,g)) _ _ (by (try dsimp only);exact ⟨hL,hn,by omega,hnf,by omega,b4t hfp om hno hb⟩) (by (try dsimp only);omega) (a0c rfl (Nat.le_refl _) tsa hsa)
 refine ru 2 ?_
 refine a0d ?_
 refine ru 4 ?_
 obtain rfl:p=l.length:=om;have hE:=b6w hL (fun b hb=>hno b (by rw [List.take_of_length_le (by rw [List.length_drop];exact Nat.le_refl _)];exact hb))
 refine ru 7 ?_
 refine wdc (fun hr3 hc3=>?_) (fun hr3 hc3=>?_)
 ·refine ru 12 ?_
  refine rt3 ?_
  have hne:l≠[]:=(fun h=>by rw [h] at hc3;simp only [List.length_nil] at hc3;omega);have e:a1A l=([],out.length+1,2):=(by rw [b0M om hne hE,if_neg (fun h=>by have:=congrArg List.length h;rw [List.length_drop] at this;simp only [List.length_nil] at this;omega)]);rw [e];exact a1q (.nil 0 1 _ (by decide) none) (by rw [hn];exact .imm _) (.imm _)
 refine ru 11 ?_
 refine a4A rfl (a0k rfl) (a0k rfl) (a0k rfl) [(5,_)] rfl (a0h rfl a0e) ?_
 have e:a1A l=(out,0,0):=(by by_cases hne:l=[];(subst hne;have h0:out=[]:=(by simpa [a0i] using hE);rw [h0];rfl);(rw [b0M om hne hE,if_pos (List.drop_eq_nil_of_le om)]));rw [e];exact a1q (a1z (l:=out) (enc:=fun w _=>a0r w) (d:=[]) (List.mem_cons_self ..) rfl hn (Nat.le_refl _) (fun i j _ _=>.imm _)) (.imm _) (.imm _)
theorem c1i {w:World} {E:Env} {v:Value} {ls:List (List UInt8)} (h:Rep w E v (a1a ls)):∃ A c,v=.slice A ls.length c∧ls.length≤c∧c≤maxLen∧Sl w w.heap.size 1 c1l A ls:=c3L 1 c1l (fun _=>rfl) (fun w _=>a0r w) b3l [] ls h
theorem c2b (ls:List (List UInt8)) (h1:ls.length≤1000000) (h2:(a0U ls).length≤1000000):a0t Tryz.prog 49 [a1a ls,a0r [32]] (a0r (a0U ls)):=by
 refine ⟨⟨_,_,Tryz.func49,rfl,by kernel_rfl⟩,fun w F vs hF hr hw=>?_⟩
 obtain ⟨u,v,rfl,hu,hv⟩:=c2v hr
 obtain ⟨A,c,rfl,hc,hm,hs⟩:=c1i hu
 rw [hv.imm_inv]
 have hj:Lib.join ((ls.map (fun w:List UInt8=>(⟨w.toArray⟩:ByteArray))).map (·.data.toList)) [32]=a0U ls:=by
  rw [←b2K,List.map_map]
  congr 1
  exact List.map_id _
 by_cases h0:0 < ls.length
 ·obtain ⟨b,o,rfl,hlt⟩:=hs.addr h0 (by omega)
  have key:=Tryz.strings_Join b o c (ls.map (fun w:List UInt8=>(⟨w.toArray⟩:ByteArray))) ⟨#[32]⟩ w (fun j x hx=>by
   rw [List.getElem?_map] at hx
   obtain ⟨y,hy,rfl⟩:=Option.map_eq_some_iff.1 hx
   have hj:j < ls.length:=(List.getElem?_eq_some_iff.1 hy).1
   have:=hs.cell1 hj
   rw [this]
   have e:ls[j]=y:=(List.getElem?_eq_some_iff.1 hy).2
   rw [e];rfl) hlt (by rw [List.length_map];omega) (by rw [List.length_map];exact hc) (by
   show (Lib.join _ [32]).length≤_
   rw [hj];omega)
  rw [List.length_map] at key
  refine key.mono ?_
  rintro e w' ⟨rfl,hb⟩
  show a1f w F _ (.returned (.string ⟨(Lib.join _ [32]).toArray⟩)) w'
  rw [hj]
  exact a4k hF hb
 ·obtain rfl:ls=[]:=List.eq_nil_of_length_eq_zero (by omega)
  refine (Tryz.strings_Join_none A c ⟨#[32]⟩ w).mono ?_
  rintro e w' ⟨rfl,rfl⟩
  exact a4k hF (Below.refl _ _)
theorem c0g (ls:List (List UInt8)) (u1:ls.length≤1000000) (u2:(a0U ls).length≤1000000):a0t Tryz.prog 26 [a1a ls] (a0r (a0U ls)):=by
 refine a0n Tryz.func26 rfl kr _ _ _ rfl 5 rfl rfl (fun w F=>?_)
 refine ru 8 ?_
 refine cll (c2b ls u1 u2) ?_
 refine ru 4 ?_
 refine rt1 ?_
 exact Frz.fz
theorem a7h {l:List UInt8} {ws:List (List UInt8)} (h:a2a l=some ws):a0U ws=l:=by
 unfold a2a at h
 by_cases h0:l=[]
 ·rw [if_pos h0] at h;injection h with h;subst h;subst h0;rfl
 ·rw [if_neg h0] at h
  split at h
  ·injection h with h;subst h;exact b4x l
  ·cases h
set_option maxHeartbeats 1000000
theorem b8K (l:List UInt8) (c:UInt8):a0t Tryz.prog 78 [a0r l,a0r [c]] (a0g (Lib.indexByte l c)):=by
 refine ⟨⟨_,_,Tryz.func78,rfl,by kernel_rfl⟩,fun w F vs hF hr hw=>?_⟩
 obtain ⟨u,v,rfl,hu,hv⟩:=c2v hr
 rw [hu.imm_inv,hv.imm_inv]
 refine (Tryz.strings_Index_one ⟨l.toArray⟩ c w).mono ?_
 rintro e w' ⟨rfl,rfl⟩
 exact a4k hF (Below.refl _ _)
theorem b6p {w w':World} {F:Addr→Prop} {u v x:Value} (hF:∀ a,F a→a.spot=none∧(w.cell? a).isSome=true) (hb:Below w.heap.size w w'):a1f w F (t3 (.imm u) (.imm v) (.imm x)) (.returned (.tuple #[u,v,x])) w' :=
 ⟨hb,_,F,rfl,fun _ h=>h,fun _ h=>.inl h,fun a ha=>⟨(hF a ha).1,by rw [World.cell?_of_block (hb.block _ (a1i (hF a ha).2))];exact (hF a ha).2⟩,
  .tup _ 3 _ (fun i=>match i with | 0=>u | 1=>v | _=>x) rfl (fun i hi=>by match i,hi with | 0,_=>rfl | 1,_=>rfl | 2,_=>rfl) (fun i hi=>by match i,hi with | 0,_=>exact .imm _ | 1,_=>exact .imm _ | 2,_=>exact .imm _)⟩
@[reducible] def c1E (x:Bs×Bs×Bool):HV:=t3 (a0r x.1) (a0r x.2.1) (a0x x.2.2)
theorem c2P (l:List UInt8) (c:UInt8) (hl:l.length≤1000000):a0t Tryz.prog 57 [a0r l,a0r [c]] (c1E (a3R c l)):=by
 refine ⟨⟨_,_,Tryz.func57,rfl,by kernel_rfl⟩,fun w F vs hF hr hw=>?_⟩
 obtain ⟨u,v,rfl,hu,hv⟩:=c2v hr
 rw [hu.imm_inv,hv.imm_inv]
 obtain ⟨m,hm⟩:=hw.max 0 (by kernel_rfl)
 refine (Tryz.strings_Cut ⟨l.toArray⟩ ⟨#[c]⟩ m w (by rw [a2r];omega) hm).mono ?_
 rintro e w' ⟨rfl,n,rfl⟩
 rw [show Lib.cut (ByteArray.mk l.toArray).data.toList (ByteArray.mk #[c]).data.toList=a3R c l from c1h l c]
 exact b6p hF ⟨rfl,by simp,rfl,by simp,fun k hk=>rfl⟩
@[reducible] def c4n (c:UInt8) (q:Nat):Nat→HV:=fun i=>match i with
 | 0=>.fp 1 (fun _=>a0r [c])
 | 1=>.pt 6101 q 0 0
 | _=>.fp 1 (fun _=>a0g 0)
theorem c2i (c0:Nat) (s:Bs) (ch:UInt8):a3k Tryz.prog 141 c0 [a0r s,a0r [ch],a0g 0] [] (a5r (fun (q:Nat) _=>True) (fun q=>.fn (.func 159) 3 (c4n ch q)) (fun q=>[(6101,⟨q,1,1,9,0,fun _ _=>a0r s⟩)])):=by
 refine a0v Tryz.func141 rfl kr _ _ _ _ rfl 8 rfl rfl (fun X ok hX=>?_)
 refine ru 2 ?_
 refine a0p 3 (a5q (id:=6101) (sz:=1) rfl rfl rfl omx omx) rfl rfl a0e rfl rfl (c':=c0+1) rfl ?_
 refine a0p 4 (a5q (id:=6102) (sz:=1) rfl rfl rfl omx omx) rfl rfl a0e rfl rfl (c':=c0+2) rfl ?_
 refine a0p 5 (a5q (id:=6103) (sz:=1) rfl rfl rfl omx omx) rfl rfl a0e rfl rfl (c':=c0+3) rfl ?_
 refine ru 10 ?_
 refine a1B ok hX a3x.one rfl (a0k rfl) [(6102,_),(6103,_)] rfl (a0h rfl (a0h rfl a0e)) (c0) (trivial) (by rfl) (by rfl) (.fn _ _ _ _ (fun i hi=>by match i,hi with | 0,_=>exact .fz _ _ (.pt 6102 _ 0 0 1 _ (fun _=>a0r [ch]) (List.mem_cons_self ..) rfl (Nat.lt_succ_self 0) (Nat.le_refl 1) (fun j hj=>.imm _)) | 1,_=>exact .pt _ _ _ _ _ rfl rfl | 2,_=>exact .fz _ _ (.pt 6103 _ 0 0 1 _ (fun _=>a0g 0) (List.mem_cons_of_mem _ (List.mem_cons_self ..)) rfl (Nat.lt_succ_self 0) (Nat.le_refl 1) (fun j hj=>.imm _)))) ?_
 exact ⟨⟨_,rfl,c3p (.fz _ _ (.imm _))⟩,trivial⟩
theorem c3F (c0:Nat) (s:Bs) (ch:UInt8):a3k Tryz.prog 120 c0 [a0r s,a0r [ch]] [] (a5r (fun (q:Nat) _=>True) (fun q=>.fn (.func 159) 3 (c4n ch q)) (fun q=>[(6101,⟨q,1,1,9,0,fun _ _=>a0r s⟩)])):=by
 refine a0v Tryz.func120 rfl kr _ _ _ _ rfl 8 rfl rfl (fun X ok hX=>?_)
 refine ru 9 ?_
 refine a0m 7 (xs:=[_,_,_]) (pre:=[]) (c2i _ s ch) ⟨rfl,⟨rfl,⟨rfl,trivial⟩⟩⟩ a0e rfl rfl (fun q c1 hx1=>?_)
 (try dsimp only)
 refine ru 4 ?_
 refine fr1 ok hX rw1 (q) (trivial) (.fn _ _ _ _ (fun i hi=>by match i,hi with | 0,_=>exact .fz _ _ (.fp _ _ (Nat.le_refl _) _ _ (fun _ _=>.imm _)) | 1,_=>exact .pt _ _ _ _ _ rfl rfl | 2,_=>exact .fz _ _ (.fp _ _ (Nat.le_refl _) _ _ (fun _ _=>.imm _)))) ?_
 exact ⟨⟨_,rfl,c3p (.fz _ _ (.imm _))⟩,trivial⟩
instance {f:Fn} {y:Nat→HV}:Frz (.fn f 0 y):=⟨.fn _ _ _ _ fun i hi=>absurd hi (Nat.not_lt_zero _)⟩
theorem c3b (s:Bs) (ch:UInt8) (hs:s.length≤1000000):b4T Tryz.prog 159 9 (.string ⟨s.toArray⟩) (.fp 1 (fun _=>a0r [ch])) [.fp 1 (fun _=>a0g 0)] (a0i ch s).length (fun i=>[a0r ((a0i ch s).getD i [])]):=by
 refine b6s Tryz.func159 rfl kr _ _ _ _ _ rfl 52 rfl rfl (fun X hXN hXy hXt O W F hg=>?_)
 refine ru 8 ?_
 refine wdc (fun hr0 hc0=>?_) (fun hr0 hc0=>?_)
 ·skip
  exfalso;simp at hr0
 refine ru 4 ?_
 refine b8n (α:=Nat×List UInt8) (fun x=>[(0,.v (.fn (.yield X.l) 0 fun _=>default)),(1,.v (.fp 1 (fun _=>a0r [ch]))),(2,.v (.pt 6001 0 0 0)),(3,.v (.fp 1 (fun _=>a0g 0)))]) (fun x=>[(6001,bxO 0 9 (.string ⟨x.2.toArray⟩))]) (fun x=>a0i ch x.2=(a0i ch s).drop x.1∧x.2.length≤1000000) (fun x=>x.1) (fun x=>x.2.length) ((0,s)) (by exact ⟨rfl,hs⟩) (by first | exact hg | simpa using hg) (a0c rfl (Nat.le_refl _) tsa hsa) (fun x O W F c hx hg NhL1 hL1=>?_)
 revert hx hg hL1;obtain ⟨i,r⟩:=x;intro hx hg hL1;dsimp only at hx hg hL1 ⊢
 obtain ⟨hx1,hx2⟩:=hx
 have hii:i < (a0i ch s).length:=(by have h9:=congrArg List.length hx1;rw [List.length_drop] at h9;have:=List.length_pos_iff.2 (a2e ch r);omega);have hgi:(a0i ch s).getD i []=(a0i ch r).getD 0 []:=(by rw [hx1,List.getD_eq_getElem?_getD,List.getD_eq_getElem?_getD,List.getElem?_drop,Nat.add_zero])
 refine ru 5 ?_
 refine cll (b8K r ch) ?_
 refine ru 10 ?_
 refine wdc (fun hr3 hc3=>?_) (fun hr3 hc3=>?_)
 ·skip
  have hm1:Lib.indexByte r ch=-1:=(by have:=Lib.indexByte_ge r ch;omega);have hsp:=b0G.1 hm1
  refine ru 3 ?_
  refine a0d ?_
  refine ru 5 ?_
  refine b0H hXt hg (by rw [hXN];exact hii) (xs:=[_]) [(0,.v (.fn (.yield X.l) 0 fun _=>default))] rfl ⟨rfl,trivial⟩ (by rw [hXy];exact ⟨Fz.eq (by rw [hgi,hsp];rfl),trivial⟩) (TmB.cons rfl (Fz.eq rfl) TmB.nil) rfl rfl rfl (fun O W F hg=>?_) (fun W F hfr hjx=>?_)
  ·skip
   refine a3i ?_
   refine a3c ?_
   exact c0C hXt rfl hg (by rw [hXN];have h9:=congrArg List.length hx1;rw [hsp,List.length_drop] at h9;simp at h9;omega) rfl rfl
  ·skip
   refine a3i ?_
   refine a3c ?_
   exact b3G rfl (by rw [hXN];omega) hjx
 have hm0:0≤Lib.indexByte r ch:=om;have hsp:=b0G.2 hm0
 refine ru 17 ?_
 refine b0H hXt hg (by rw [hXN];exact hii) (xs:=[_]) [(0,.v (.fn (.yield X.l) 0 fun _=>default)),(1,.v (.fp 1 (fun _=>a0r [ch]))),(2,.v (.pt 6001 0 0 0)),(3,.v (.fp 1 (fun _=>a0g 0))),(7,.v (a0g (Lib.indexByte r ch)))] rfl ⟨rfl,trivial⟩ (by rw [hXy];exact ⟨Fz.eq (by rw [hgi,hsp.1];show a0r (r.take _)=_;congr 2;omega),trivial⟩) (TmB.cons rfl (Fz.eq rfl) (TmB.cons rfl (Fz.eq rfl) (TmB.box rfl (TmB.cons rfl (Fz.eq rfl) (TmB.cons rfl (Fz.eq rfl) TmB.nil))))) rfl rfl rfl (fun O W F hg=>?_) (fun W F hfr hjx=>?_)
 ·refine ru 1 ?_
  refine a3i ?_
  refine ru 1 ?_
  refine wdc (fun hr4 hc4=>?_) (fun hr4 hc4=>?_)
  ·skip
   exfalso;simp at hr4
  refine ru 12 ?_
  exact hL1 ((i+1,r.drop ((Lib.indexByte r ch).toNat+1))) O W F _ _ (by (try dsimp only);exact ⟨by have h9:=hsp.1;rw [hx1] at h9;have h8:=congrArg (List.drop 1) h9;rw [List.drop_drop] at h8;exact h8.symm,by rw [List.length_drop];omega⟩) (by (try dsimp only);(have h9:=hsp.2;rw [List.length_drop];omega)) (by (try dsimp only);first | exact hg | simpa using hg) (a0c rfl (Nat.le_refl _) tsa (a0j.cons rfl (b4p (by show Sb (a0r _) (a0r _);rw [show (Lib.indexByte r ch+(([ch]:Bs).length:Int)).toNat=(Lib.indexByte r ch).toNat+1 by simp;omega,List.take_of_length_le (by rw [List.length_drop];simp)];exact .refl _)) a0j.nil))
 ·refine ru 1 ?_
  refine a3i ?_
  refine ru 1 ?_
  refine wdc (fun hr4 hc4=>?_) (fun hr4 hc4=>?_)
  ·refine ru 3 ?_
   refine a0f ?_
   refine ru 2 ?_
   exact b3G rfl (by rw [hXN];omega) hjx
  exfalso;simp at hr4
end Go.Proofs.YtjdmfohncgkdoaaGreatDoor
namespace Go.Proofs.YtjdmfohncgkdoaaGreatDoor
set_option linter.unusedSimpArgs false
set_option linter.unusedVariables false
def T.kidsT:T→List T
 | .name _=>[]
 | .times _ _ t=>[t]
 | .many _ ts=>ts
theorem b7s (b:Nat) (t:T):(t.top b).kids=rootsL b t.kidsT:=by
 cases t <;> simp [T.top,T.kidsT,rootsL]
def a7u (t:T):List Sg:=match t with | .name s=>[⟨1,0,0,0,s⟩] | _=>[]
def a8v (t:T):List Sg:=match t with | .times lo hi _=>[⟨5,0,lo,hi,[]⟩] | _=>[]
theorem b8u (t:T):t.sig=a7u t++T.sigL t.kind true t.kidsT++a8v t:=by
 cases t with
 | name s=>simp [T.sig,a7u,a8v,T.kidsT,T.sigL,T.kind]
 | times lo hi t=>simp [T.sig,a7u,a8v,T.kidsT,T.sigL,T.kind,orS]
 | many k ts=>simp [T.sig,a7u,a8v,T.kidsT,T.kind]
theorem b9Y {t:T} (h:t.ok=true):T.okL t.kidsT=true:=by
 cases t with
 | name s=>rfl
 | times lo hi t=>simp only [T.ok,Bool.and_eq_true] at h;simp [T.kidsT,T.okL,h.2]
 | many k ts=>simp only [T.ok,Bool.and_eq_true] at h;exact h.2
theorem b3z {e:List Pt} {b i:Nat} {t:T} (h:AtP e b (T.flat b t)) (hi:i < t.kidsT.length):AtP e (b+T.sizeL (t.kidsT.take i)) (T.flat (b+T.sizeL (t.kidsT.take i)) (t.kidsT.getD i default)):=by
  cases t with
  | name s=>exact absurd hi (Nat.not_lt_zero _)
  | times lo hi' t =>
    obtain rfl:i=0:=by simpa [T.kidsT] using hi
    simp only [T.flat] at h
    have:=a5s h
    simpa [T.kidsT,T.sizeL] using this
  | many k ts=>exact a7S h hi
theorem b5U {t:T} (h:t.ok=true):t.kind=1∨t.kind=2∨t.kind=3∨t.kind=4:=by
  cases t with
  | name s=>exact .inl rfl
  | times lo hi t=>exact .inr (.inr (.inr rfl))
  | many k ts =>
    simp only [T.ok,Bool.and_eq_true,Bool.or_eq_true,decide_eq_true_eq] at h
    rcases h.1.1 with hk | hk
    · exact .inr (.inl hk)
    · exact .inr (.inr (.inl hk))
theorem c2z {p k:Int} (hp:p=2∨p=3∨p=4) (hk:k=1∨k=2∨k=3∨k=4):(decide (k=3)||decide (k=2)&&!decide (p=3)||decide (k=4)&&decide (p=4))=inB p k:=by
 rcases hp with rfl | rfl | rfl <;> rcases hk with rfl | rfl | rfl | rfl <;> rfl
end Go.Proofs.YtjdmfohncgkdoaaGreatDoor
namespace Go.Proofs.YtjdmfohncgkdoaaGreatDoor
set_option linter.unusedSimpArgs false
set_option linter.unusedVariables false
set_option maxRecDepth 100000
set_option maxHeartbeats 1000000
open Go.RowKit
instance frz_fn0 (f:Fn) (c:Nat→HV):Frz (.fn f 0 c):=⟨.fn _ 0 _ _ (fun i hi=>absurd hi (Nat.not_lt_zero _))⟩
@[reducible] def c4v:Nat→Nat→HV:=fun i _=>a0r (([[],[],[40],[41],[124]]:List (List UInt8)).getD i [])
theorem b5i {x:Sg} (h1:1 < x.kind) (h2:x.kind < 5):(x.kind=2∧a0R x=[40])∨(x.kind=3∧a0R x=[41])∨(x.kind=4∧a0R x=[124]):=by
 have:x.kind=2∨x.kind=3∨x.kind=4:=by omega
 unfold a0R
 rcases this with h | h | h
 ·exact .inl ⟨h,by rw [h];rfl⟩
 ·exact .inr (.inl ⟨h,by rw [h];rfl⟩)
 ·exact .inr (.inr ⟨h,by rw [h];rfl⟩)
theorem b0k {x:Sg} (h1:1 < x.kind) (h2:x.kind < 5):a0r (([[],[],[40],[41],[124]]:List (List UInt8)).getD (0+x.kind.toNat) [])=a0r (a0R x):=by
 rcases b5i h1 h2 with ⟨h,e⟩ | ⟨h,e⟩ | ⟨h,e⟩ <;> rw [e,h] <;> rfl
theorem a7L {x:Sg} (h1:1 < x.kind) (h2:x.kind < 5):(a0R x).length≤1:=by
 rcases b5i h1 h2 with ⟨h,e⟩ | ⟨h,e⟩ | ⟨h,e⟩ <;> rw [e] <;> decide
theorem b2s (l:List Sg) (hl:l.length≤1000) (hok:∀ x∈l,SgOk x):a0t Tryz.prog 96 [a3l l] (a0r (a6j l)):=by
 refine a0n Tryz.func96 rfl kr _ _ _ rfl 60 rfl rfl (fun w F=>?_)
 refine ru 7 ?_
 refine a0p 7 (a0b (id:=7) (hs:=[_,_,_,_,_]) ei_44.h omx rfl omx ⟨rfl,rfl,rfl,rfl,⟨rfl,rfl,rfl,rfl,⟨rfl,rfl,rfl,rfl,⟨rfl,rfl,rfl,rfl,⟨rfl,rfl,rfl,rfl,trivial⟩⟩⟩⟩⟩) rfl rfl a0e rfl rfl (c':=1) rfl ?_
 refine ru 15 ?_
 refine a0o (α:=Nat×List UInt8) (fun x c=>⟨60,[(0,.v (a3l l)),(3,.v (.os 7 0 0 5)),(4,.v (a0r x.2)),(5,.v (a0g x.1))],[(7,⟨0,5,1,9,0,c4v⟩)],c⟩) (fun x=>x.1≤l.length∧x.2.length≤200 * x.1∧x.2++a4y (decide (x.1=0)) (l.drop x.1)=a6j l) (fun x=>l.length - x.1) ((0,[])) (by exact ⟨Nat.zero_le _,Nat.zero_le _,rfl⟩) (a0c rfl (Nat.le_refl _) tsa (a0j.cons rfl (a5V.of fun i j hi hj=>by match i,hi,j,hj with | 0,_,0,_=>exact .refl _ | 1,_,0,_=>exact .refl _ | 2,_,0,_=>exact .refl _ | 3,_,0,_=>exact .refl _ | 4,_,0,_=>exact .refl _) a0j.nil)) (fun x c hx NhL1 hL1=>?_)
 revert hx hL1;obtain ⟨k,acc⟩:=x;intro hx hL1;dsimp only at hx hL1 ⊢
 obtain ⟨hk,hb,hL⟩:=hx
 refine ru 9 ?_
 refine wdc (fun hr0 hc0=>?_) (fun hr0 hc0=>?_)
 ·skip
  have hkl:k < l.length:=om;have hx:=b7e hok hkl;have hnm:=hx.name;have htl:=b0u _ _ hx.low hx.high
  refine ru 26 ?_
  refine wdc (fun hr1 hc1=>?_) (fun hr1 hc1=>?_)
  ·skip
   have ha1:(acc++[32]).length=acc.length+1:=List.length_append;have hsep:b4y (decide (k=0)) (l.getD k default)=[32]:=(by unfold b4y;rw [if_pos ⟨decide_eq_false om,hc1.2⟩])
   refine ru 11 ?_
   refine rvl (a0g (l.getD k default).kind) (rfl) ?_
   refine ru 3 ?_
   refine wdc (fun hr2 hc2=>?_) (fun hr2 hc2=>?_)
   ·refine ru 4 ?_
    refine rvl (a0r (l.getD k default).name) (rfl) ?_
    refine ru 9 ?_
    refine rvl (a0g (l.getD k default).kind) (rfl) ?_
    refine ru 4 ?_
    refine ry (a0g (l.getD k default).kind) rfl (fun hb=>rfl) ?_
    refine ru 4 ?_
    refine wdc (fun hr3 hc3=>?_) (fun hr3 hc3=>?_)
    ·skip
     exfalso;omega
    refine ru 6 ?_
    refine rvl (a0g (l.getD k default).kind) (rfl) ?_
    refine ru 3 ?_
    refine wdc (fun hr4 hc4=>?_) (fun hr4 hc4=>?_)
    ·skip
     exfalso;omega
    refine ru 8 ?_
    exact hL1 ((k+1,(acc++[32])++(l.getD k default).name)) _ _ (by (try dsimp only);exact ⟨by omega,by (try simp only [List.length_append,List.length_cons,List.length_nil]);omega,by have h:=a0W (p:=(l.getD k default).name) hkl hL hsep (if_pos hc2);simpa only [List.append_nil,List.append_assoc] using h⟩) (by (try dsimp only);omega) (a0c rfl (Nat.le_refl _) tsa hsa)
   refine ru 7 ?_
   refine rvl (a0g (l.getD k default).kind) (rfl) ?_
   refine ru 4 ?_
   refine ry (a0g (l.getD k default).kind) rfl (fun hb=>rfl) ?_
   refine ru 4 ?_
   refine wdc (fun hr3 hc3=>?_) (fun hr3 hc3=>?_)
   ·skip
    have hpl:(a0R (l.getD k default)).length≤1:=a7L hc3.1 hc3.2
    refine ru 5 ?_
    refine rvl (a0g (l.getD k default).kind) (rfl) ?_
    refine ru 2 ?_
    refine rvl (a0r (a0R (l.getD k default))) ((by exact b0k hc3.1 hc3.2)) ?_
    refine ru 8 ?_
    refine rvl (a0g (l.getD k default).kind) (rfl) ?_
    refine ru 3 ?_
    refine wdc (fun hr4 hc4=>?_) (fun hr4 hc4=>?_)
    ·skip
     exfalso;omega
    refine ru 8 ?_
    exact hL1 ((k+1,(acc++[32])++a0R (l.getD k default))) _ _ (by (try dsimp only);exact ⟨by omega,by (try simp only [List.length_append,List.length_cons,List.length_nil]);omega,by have h:=a0W (p:=a0R (l.getD k default)) hkl hL hsep (rfl);simpa only [List.append_nil,List.append_assoc] using h⟩) (by (try dsimp only);omega) (a0c rfl (Nat.le_refl _) tsa hsa)
   refine ru 6 ?_
   refine rvl (a0g (l.getD k default).kind) (rfl) ?_
   refine ru 3 ?_
   refine wdc (fun hr4 hc4=>?_) (fun hr4 hc4=>?_)
   ·refine ru 4 ?_
    refine rvl (a0g (l.getD k default).low) (rfl) ?_
    refine ru 2 ?_
    refine rvl (a0g (l.getD k default).high) (rfl) ?_
    refine cll (a8y _ _ hx.low hx.high) ?_
    refine ru 10 ?_
    exact hL1 ((k+1,(acc++[32])++a0K (l.getD k default).low (l.getD k default).high)) _ _ (by (try dsimp only);exact ⟨by omega,by (try simp only [List.length_append,List.length_cons,List.length_nil]);omega,by have h:=a0W (p:=a0K (l.getD k default).low (l.getD k default).high) hkl hL hsep (by unfold a0R;rw [if_neg hc2,if_neg (fun h=>by have h3:=hr3;rw [h] at h3;simp at h3),if_neg (fun h=>by have h3:=hr3;rw [h] at h3;simp at h3),if_neg (fun h=>by have h3:=hr3;rw [h] at h3;simp at h3),if_pos hc4]);simpa only [List.append_nil,List.append_assoc] using h⟩) (by (try dsimp only);omega) (a0c rfl (Nat.le_refl _) tsa hsa)
   refine ru 8 ?_
   exact hL1 ((k+1,acc++[32])) _ _ (by (try dsimp only);exact ⟨by omega,by (try simp only [List.length_append,List.length_cons,List.length_nil]);omega,by have h:=a0W (p:=[]) hkl hL hsep (by unfold a0R;rw [if_neg hc2,if_neg (fun h=>by have h3:=hr3;rw [h] at h3;simp at h3),if_neg (fun h=>by have h3:=hr3;rw [h] at h3;simp at h3),if_neg (fun h=>by have h3:=hr3;rw [h] at h3;simp at h3),if_neg hc4]);simpa only [List.append_nil,List.append_assoc] using h⟩) (by (try dsimp only);omega) (a0c rfl (Nat.le_refl _) tsa hsa)
  have hsep:b4y (decide (k=0)) (l.getD k default)=[]:=(by unfold b4y;rw [if_neg (fun h=>by have h1:=of_decide_eq_false h.1;have h2:=hr1;rw [show decide ((0:Int) < (k:Int))=true from decide_eq_true om,Bool.true_and] at h2;simp only [bne_eq_false_iff_eq] at h2;exact h.2 h2)])
  refine ru 7 ?_
  refine rvl (a0g (l.getD k default).kind) (rfl) ?_
  refine ru 3 ?_
  refine wdc (fun hr2 hc2=>?_) (fun hr2 hc2=>?_)
  ·refine ru 4 ?_
   refine rvl (a0r (l.getD k default).name) (rfl) ?_
   refine ru 9 ?_
   refine rvl (a0g (l.getD k default).kind) (rfl) ?_
   refine ru 4 ?_
   refine ry (a0g (l.getD k default).kind) rfl (fun hb=>rfl) ?_
   refine ru 4 ?_
   refine wdc (fun hr3 hc3=>?_) (fun hr3 hc3=>?_)
   ·skip
    exfalso;omega
   refine ru 6 ?_
   refine rvl (a0g (l.getD k default).kind) (rfl) ?_
   refine ru 3 ?_
   refine wdc (fun hr4 hc4=>?_) (fun hr4 hc4=>?_)
   ·skip
    exfalso;omega
   refine ru 8 ?_
   exact hL1 ((k+1,(acc)++(l.getD k default).name)) _ _ (by (try dsimp only);exact ⟨by omega,by (try simp only [List.length_append,List.length_cons,List.length_nil]);omega,by have h:=a0W (p:=(l.getD k default).name) hkl hL hsep (if_pos hc2);simpa only [List.append_nil,List.append_assoc] using h⟩) (by (try dsimp only);omega) (a0c rfl (Nat.le_refl _) tsa hsa)
  refine ru 7 ?_
  refine rvl (a0g (l.getD k default).kind) (rfl) ?_
  refine ru 4 ?_
  refine ry (a0g (l.getD k default).kind) rfl (fun hb=>rfl) ?_
  refine ru 4 ?_
  refine wdc (fun hr3 hc3=>?_) (fun hr3 hc3=>?_)
  ·skip
   have hpl:(a0R (l.getD k default)).length≤1:=a7L hc3.1 hc3.2
   refine ru 5 ?_
   refine rvl (a0g (l.getD k default).kind) (rfl) ?_
   refine ru 2 ?_
   refine rvl (a0r (a0R (l.getD k default))) ((by exact b0k hc3.1 hc3.2)) ?_
   refine ru 8 ?_
   refine rvl (a0g (l.getD k default).kind) (rfl) ?_
   refine ru 3 ?_
   refine wdc (fun hr4 hc4=>?_) (fun hr4 hc4=>?_)
   ·skip
    exfalso;omega
   refine ru 8 ?_
   exact hL1 ((k+1,(acc)++a0R (l.getD k default))) _ _ (by (try dsimp only);exact ⟨by omega,by (try simp only [List.length_append,List.length_cons,List.length_nil]);omega,by have h:=a0W (p:=a0R (l.getD k default)) hkl hL hsep (rfl);simpa only [List.append_nil,List.append_assoc] using h⟩) (by (try dsimp only);omega) (a0c rfl (Nat.le_refl _) tsa hsa)
  refine ru 6 ?_
  refine rvl (a0g (l.getD k default).kind) (rfl) ?_
  refine ru 3 ?_
  refine wdc (fun hr4 hc4=>?_) (fun hr4 hc4=>?_)
  ·refine ru 4 ?_
   refine rvl (a0g (l.getD k default).low) (rfl) ?_
   refine ru 2 ?_
   refine rvl (a0g (l.getD k default).high) (rfl) ?_
   refine cll (a8y _ _ hx.low hx.high) ?_
   refine ru 10 ?_
   exact hL1 ((k+1,(acc)++a0K (l.getD k default).low (l.getD k default).high)) _ _ (by (try dsimp only);exact ⟨by omega,by (try simp only [List.length_append,List.length_cons,List.length_nil]);omega,by have h:=a0W (p:=a0K (l.getD k default).low (l.getD k default).high) hkl hL hsep (by unfold a0R;rw [if_neg hc2,if_neg (fun h=>by have h3:=hr3;rw [h] at h3;simp at h3),if_neg (fun h=>by have h3:=hr3;rw [h] at h3;simp at h3),if_neg (fun h=>by have h3:=hr3;rw [h] at h3;simp at h3),if_pos hc4]);simpa only [List.append_nil,List.append_assoc] using h⟩) (by (try dsimp only);omega) (a0c rfl (Nat.le_refl _) tsa hsa)
  refine ru 8 ?_
  exact hL1 ((k+1,acc)) _ _ (by (try dsimp only);exact ⟨by omega,by (try simp only [List.length_append,List.length_cons,List.length_nil]);omega,by have h:=a0W (p:=[]) hkl hL hsep (by unfold a0R;rw [if_neg hc2,if_neg (fun h=>by have h3:=hr3;rw [h] at h3;simp at h3),if_neg (fun h=>by have h3:=hr3;rw [h] at h3;simp at h3),if_neg (fun h=>by have h3:=hr3;rw [h] at h3;simp at h3),if_neg hc4]);simpa only [List.append_nil,List.append_assoc] using h⟩) (by (try dsimp only);omega) (a0c rfl (Nat.le_refl _) tsa hsa)
 refine ru 2 ?_
 refine a0d ?_
 refine ru 9 ?_
 refine rt1 ?_
 have e:=b2G om hL;rw [e];exact .imm _
end Go.Proofs.YtjdmfohncgkdoaaGreatDoor
