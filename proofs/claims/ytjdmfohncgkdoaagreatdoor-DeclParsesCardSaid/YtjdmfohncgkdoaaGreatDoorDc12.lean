/-
  ExprRight: the document's signs of a tree.
-/
import Derived.Test.YtjdmfohncgkdoaaGreatDoorLx11
import Derived.Test.YtjdmfohncgkdoaaGreatDoorHq4
namespace Go.Proofs.YtjdmfohncgkdoaaGreatDoor
set_option linter.unusedSimpArgs false
set_option linter.unusedVariables false
set_option maxRecDepth 100000
set_option maxHeartbeats 1000000
open Go.RowKit
@[reducible] def c1C (g:Nat) (l:List Sg):HObj:=⟨g,l.length,5,162,0,a8E l⟩
def b8x (b:Bool):List Sg:=if b=true then [⟨2,0,0,0,[]⟩] else []
def c3m (b:Bool):List Sg:=if b=true then [⟨3,0,0,0,[]⟩] else []
theorem b4Y (b:Bool) (l:List Sg):a1h b l=b8x b++l++c3m b:=by cases b <;> simp [a1h,b8x,c3m]
theorem b7t {t:T} {b:Nat} (h:t.ok=true) (hk:(t.top b).kind=1):a7u t=[⟨1,0,0,0,(t.top b).name⟩]:=by
  rw [a2t] at hk
  cases t with
  | name s=>rfl
  | times lo hi t=>simp [T.kind] at hk
  | many k ts =>
    simp only [T.kind] at hk
    subst hk
    simp [T.ok] at h
theorem b8b {t:T} {b:Nat} (hk:¬ (t.top b).kind=1):a7u t=[]:=by
 rw [a2t] at hk
 cases t with
 | name s=>exact absurd rfl hk
 | times lo hi t=>rfl
 | many k ts=>rfl
theorem b5m {t:T} {b:Nat} (h:t.ok=true) (hk:(t.top b).kind=4):a8v t=[⟨5,0,(t.top b).low,(t.top b).high,[]⟩]:=by
  rw [a2t] at hk
  cases t with
  | name s=>simp [T.kind] at hk
  | times lo hi t=>rfl
  | many k ts =>
    simp only [T.kind] at hk
    subst hk
    simp [T.ok] at h
theorem b5N {t:T} {b:Nat} (hk:¬ (t.top b).kind=4):a8v t=[]:=by
 rw [a2t] at hk
 cases t with
 | name s=>rfl
 | times lo hi t=>exact absurd rfl hk
 | many k ts=>rfl
theorem b0I {x:Sg} {out o':List Sg} {g n ty:Nat} {f:Nat→Nat→HV} (ho:out++[x]=o') (hn:n=out.length) (h0:f 0 0=a0g x.kind:=by rfl) (h1:f 0 1=a0g x.at_:=by rfl) (h2:f 0 2=a0g x.low:=by rfl) (h3:f 0 3=a0g x.high:=by rfl) (h4:f 0 4=a0r x.name:=by rfl) :
  a5V ⟨g,n+1,5,ty,0,cat n (a8E out) f⟩ ⟨g,o'.length,5,ty,0,a8E o'⟩:=by
 subst ho
 exact a0w (enc:=sgF) (d:=default) (x:=x) (out:=out) hn (fun i j _ _=>.refl _) (a4J (by rw [h0];exact .refl _) (by rw [h1];exact .refl _) (by rw [h2];exact .refl _) (by rw [h3];exact .refl _) (by rw [h4];exact .refl _))
theorem b8h {k out o':List Sg} {g n m ty:Nat} (ho:out++k=o') (hn:n=out.length) (hm:m=n+k.length):a5V ⟨g,m,5,ty,0,cat n (a8E out) (a8E k)⟩ ⟨g,o'.length,5,ty,0,a8E o'⟩:=by
 subst ho;subst hn;subst hm
 refine ⟨rfl,by simp,rfl,rfl,Nat.le_refl _,fun i j hi hj=>?_,fun h=>absurd h (Nat.not_lt_zero _)⟩
 exact a8m (l:=out) (k:=k) (enc:=sgF) (d:=default) rfl (fun i j _ _=>.refl _) (fun i j _ _=>.refl _) i j (by rw [List.length_append];exact hi) hj
theorem a9E (e:List Pt) (he:e.length≤100000) (b:Nat) (t:T) (hok:t.ok=true) (hat:AtP e b (T.flat b t)) (hkl:t.kidsT.length≤100000) (hl:t.sig.length≤100000)
    (ih:∀ i,i < t.kidsT.length→∀ bin,a0t Tryz.prog 97 [a5f e,a0g ((b+T.sizeL (t.kidsT.take i)+(t.kidsT.getD i default).size - 1:Nat):Int),a0x bin] (a3l (a1h bin (t.kidsT.getD i default).sig))) (bin:Bool) :
    a0t Tryz.prog 97 [a5f e,a0g ((b+t.size - 1:Nat):Int),a0x bin] (a3l (a1h bin t.sig)):=by
  have htop:=a3C hat
  have hps:=t.size_pos
  have hkid:=b7s b t
  have hrl:=a1C t.kidsT b
  have hsk:=b8u t
  have hkx:=b9Y hok
  have hkk:=b5U hok
  have hopl:(b8x bin).length≤1:=by unfold b8x;split <;> simp
  have hnl:(a7u t).length≤1:=by unfold a7u;split <;> simp
  have hsl:(T.sigL t.kind true t.kidsT).length≤100000:=by rw [hsk] at hl;simp only [List.length_append] at hl;omega
  have hdk:∀ i,i < t.kidsT.length→(t.kidsT.getD i default).ok=true:=fun i hi=>by
    have:∀ (ts:List T) i,T.okL ts=true→i < ts.length→(ts.getD i default).ok=true:=by
      intro ts
      induction ts with
      | nil=>intro i _ h;exact absurd h (Nat.not_lt_zero _)
      | cons x ts ihh =>
        intro i h hi
        simp only [T.okL,Bool.and_eq_true] at h
        cases i with
        | zero=>exact h.1
        | succ i=>simpa using ihh i h.2 (by simpa using hi)
    exact this _ i hkx hi
  generalize htp:t.top b=p at htop hkid
  have hpk:p.kind=t.kind:=by rw [←htp];exact a2t b t
  refine a0n Tryz.func97 rfl kr _ _ _ rfl 102 rfl rfl (fun w F=>?_)
  refine ru 16 ?_
  refine rvl (ptH p) (a9g om htop.1) ?_
  refine ru 4 ?_
  refine a5F (α:=List Sg×Nat) (fun x c=>⟨102,[(0,.v (a5f e)),(1,.v (a0g ((b+t.size - 1:Nat):Int))),(2,.v (a0x bin)),(7,.v (.os 9002 x.2 0 x.1.length)),(8,.v (.pt 8 0 0 0))],[(8,⟨0,1,5,188,0,fun _=>ptF p⟩),(9002,c1C x.2 x.1)],c⟩) (fun x=>x.1=b8x bin) (fun NhJ1 hJ1=>?_) (fun x c hx=>?_)
  · refine ru 1 ?_
    refine a4b 7 9002 5 162 (a8E []) rfl (by decide) rfl (c':=3) rfl ?_
    refine ru 4 ?_
    refine wdc (fun hr0 hc0=>?_) (fun hr0 hc0=>?_)
    · refine ru 3 ?_
      refine a0p 18 (a0b (id:=18) (hs:=[_]) ei_158.h omx rfl omx ⟨rfl,rfl,rfl,rfl,trivial⟩) rfl rfl a0e rfl rfl (c':=4) rfl ?_
      first
      | refine a0p 19 (a0a ei_158.h (by first | exact Nat.le_of_ble_eq_true rfl | omega | (dsimp only;omega) | (simp <;> omega)) rfl (by first | exact Nat.le_of_ble_eq_true rfl | omega | (dsimp only;omega) | (simp <;> omega)) (by first | exact Nat.le_of_ble_eq_true rfl | omega | (dsimp only;omega) | (simp <;> omega)) (a0s rfl (by first | exact Nat.le_of_ble_eq_true rfl | omega | (dsimp only;omega) | (simp <;> omega))) (by first | exact Nat.le_of_ble_eq_true rfl | omega | (dsimp only;omega) | (simp <;> omega)) rfl) rfl rfl (a0h rfl (a0B rfl)) rfl rfl (c':=5) rfl ?_
      | refine a0p 19 (a0a ei_158.h (by first | exact Nat.le_of_ble_eq_true rfl | omega | (dsimp only;omega) | (simp <;> omega)) rfl (by first | exact Nat.le_of_ble_eq_true rfl | omega | (dsimp only;omega) | (simp <;> omega)) (by first | exact Nat.le_of_ble_eq_true rfl | omega | (dsimp only;omega) | (simp <;> omega)) (a0D rfl (by first | exact Nat.le_of_ble_eq_true rfl | omega | (dsimp only;omega) | (simp <;> omega))) (by first | exact Nat.le_of_ble_eq_true rfl | omega | (dsimp only;omega) | (simp <;> omega)) rfl) rfl rfl (a0h rfl (a0B rfl)) rfl rfl (c':=5) rfl ?_
      | refine a0p 19 (a0a ei_158.h (by first | exact Nat.le_of_ble_eq_true rfl | omega | (dsimp only;omega) | (simp <;> omega)) rfl (by first | exact Nat.le_of_ble_eq_true rfl | omega | (dsimp only;omega) | (simp <;> omega)) (by first | exact Nat.le_of_ble_eq_true rfl | omega | (dsimp only;omega) | (simp <;> omega)) (a0C rfl) (by first | exact Nat.le_of_ble_eq_true rfl | omega | (dsimp only;omega) | (simp <;> omega)) rfl) rfl rfl (a0h rfl a0e) rfl rfl (c':=5) rfl ?_
      | refine a0p 19 (a0a ei_158.h (by first | exact Nat.le_of_ble_eq_true rfl | omega | (dsimp only;omega) | (simp <;> omega)) rfl (by first | exact Nat.le_of_ble_eq_true rfl | omega | (dsimp only;omega) | (simp <;> omega)) (by first | exact Nat.le_of_ble_eq_true rfl | omega | (dsimp only;omega) | (simp <;> omega)) (a0u 5 (fun _ _=>default) rfl) (by first | exact Nat.le_of_ble_eq_true rfl | omega | (dsimp only;omega) | (simp <;> omega)) rfl) rfl rfl (a0h rfl a0e) rfl rfl (c':=5) rfl ?_
      refine ru 2 ?_
      exact hJ1 (([⟨2,0,0,0,[]⟩],4)) _ _ (by (try dsimp only);rw [hc0];rfl) (a0c rfl (Nat.le_refl _) tsa (a0j.cons rfl (by exact a6L (.refl _) (.refl _) (.refl _) (.refl _) (.refl _)) (a0j.cons rfl (b0I (out:=[]) (x:=⟨2,0,0,0,[]⟩) rfl rfl) a0j.nil)))
    refine ru 1 ?_
    exact hJ1 (([],2)) _ _ (by (try dsimp only);rw [hc0];rfl) (a0c rfl (Nat.le_refl _) tsa (a0j.cons rfl (by exact a6L (.refl _) (.refl _) (.refl _) (.refl _) (.refl _)) (a0j.cons rfl (.refl _) a0j.nil)))
  · skip
    revert hx;obtain ⟨o,g⟩:=x;intro hx;dsimp only at hx ⊢
    have hol2:o.length≤10:=(by rw [hx];omega)
    refine a5F (α:=List Sg×Nat) (fun x c=>⟨102,[(0,.v (a5f e)),(1,.v (a0g ((b+t.size - 1:Nat):Int))),(2,.v (a0x bin)),(7,.v (.os 9002 x.2 0 x.1.length)),(8,.v (.pt 8 0 0 0))],[(8,⟨0,1,5,188,0,fun _=>ptF p⟩),(9002,c1C x.2 x.1)],c⟩) (fun x=>x.1=b8x bin++a7u t) (fun NhJ2 hJ2=>?_) (fun x c hx=>?_)
    · refine ru 7 ?_
      refine wdc (fun hr1 hc1=>?_) (fun hr1 hc1=>?_)
      · refine ru 5 ?_
        refine a0p 27 (a0b (id:=27) (hs:=[_]) ei_158.h omx rfl omx ⟨rfl,rfl,rfl,rfl,trivial⟩) rfl rfl a0e rfl rfl (c':=c+1) rfl ?_
        first
        | refine a0p 28 (a0a ei_158.h (by first | exact Nat.le_of_ble_eq_true rfl | omega | (dsimp only;omega) | (simp <;> omega)) rfl (by first | exact Nat.le_of_ble_eq_true rfl | omega | (dsimp only;omega) | (simp <;> omega)) (by first | exact Nat.le_of_ble_eq_true rfl | omega | (dsimp only;omega) | (simp <;> omega)) (a0s rfl (by first | exact Nat.le_of_ble_eq_true rfl | omega | (dsimp only;omega) | (simp <;> omega))) (by first | exact Nat.le_of_ble_eq_true rfl | omega | (dsimp only;omega) | (simp <;> omega)) rfl) rfl rfl (a0h rfl (a0B rfl)) rfl rfl (c':=c+2) rfl ?_
        | refine a0p 28 (a0a ei_158.h (by first | exact Nat.le_of_ble_eq_true rfl | omega | (dsimp only;omega) | (simp <;> omega)) rfl (by first | exact Nat.le_of_ble_eq_true rfl | omega | (dsimp only;omega) | (simp <;> omega)) (by first | exact Nat.le_of_ble_eq_true rfl | omega | (dsimp only;omega) | (simp <;> omega)) (a0D rfl (by first | exact Nat.le_of_ble_eq_true rfl | omega | (dsimp only;omega) | (simp <;> omega))) (by first | exact Nat.le_of_ble_eq_true rfl | omega | (dsimp only;omega) | (simp <;> omega)) rfl) rfl rfl (a0h rfl (a0B rfl)) rfl rfl (c':=c+2) rfl ?_
        | refine a0p 28 (a0a ei_158.h (by first | exact Nat.le_of_ble_eq_true rfl | omega | (dsimp only;omega) | (simp <;> omega)) rfl (by first | exact Nat.le_of_ble_eq_true rfl | omega | (dsimp only;omega) | (simp <;> omega)) (by first | exact Nat.le_of_ble_eq_true rfl | omega | (dsimp only;omega) | (simp <;> omega)) (a0C rfl) (by first | exact Nat.le_of_ble_eq_true rfl | omega | (dsimp only;omega) | (simp <;> omega)) rfl) rfl rfl (a0h rfl a0e) rfl rfl (c':=c+2) rfl ?_
        | refine a0p 28 (a0a ei_158.h (by first | exact Nat.le_of_ble_eq_true rfl | omega | (dsimp only;omega) | (simp <;> omega)) rfl (by first | exact Nat.le_of_ble_eq_true rfl | omega | (dsimp only;omega) | (simp <;> omega)) (by first | exact Nat.le_of_ble_eq_true rfl | omega | (dsimp only;omega) | (simp <;> omega)) (a0u 5 (fun _ _=>default) rfl) (by first | exact Nat.le_of_ble_eq_true rfl | omega | (dsimp only;omega) | (simp <;> omega)) rfl) rfl rfl (a0h rfl a0e) rfl rfl (c':=c+2) rfl ?_
        refine ru 2 ?_
        exact hJ2 ((o++[⟨1,0,0,0,p.name⟩],c+1)) _ _ (by (try dsimp only);rw [hx,b7t (b:=b) hok (by rw [htp];exact hc1),htp]) (a0c rfl (Nat.le_refl _) (tsr rfl (tsr rfl (tsr rfl (a0E.cons rfl (a1G (by simp)) tsa)))) (a0j.cons rfl (.refl _) (a0j.cons rfl (b0I (x:=⟨1,0,0,0,p.name⟩) rfl rfl) a0j.nil)))
      refine ru 1 ?_
      exact hJ2 ((o,g)) _ _ (by (try dsimp only);rw [hx,b8b (b:=b) (by rw [htp];exact hc1),List.append_nil]) (a0c rfl (Nat.le_refl _) tsa hsa)
    · skip
      revert hx;obtain ⟨o,g⟩:=x;intro hx;dsimp only at hx ⊢
      have hol2:o.length≤10:=(by rw [hx];simp only [List.length_append];omega)
      refine ru 7 ?_
      refine a0o (α:=Nat×List Sg×Nat) (fun x c=>⟨102,[(0,.v (a5f e)),(1,.v (a0g ((b+t.size - 1:Nat):Int))),(2,.v (a0x bin)),(7,.v (.os 9002 x.2.2 0 x.2.1.length)),(8,.v (.pt 8 0 0 0)),(9,.v (a0g x.1))],[(8,⟨0,1,5,188,0,fun _=>ptF p⟩),(9002,c1C x.2.2 x.2.1)],c⟩) (fun x=>x.1≤t.kidsT.length∧x.2.1=b8x bin++a7u t++T.sigL t.kind true (t.kidsT.take x.1)) (fun x=>t.kidsT.length - x.1) ((0,o,g)) (by exact ⟨Nat.zero_le _,by rw [hx,List.take_zero];simp [T.sigL]⟩) (a0c rfl (Nat.le_refl _) tsa hsa) (fun x c hx NhL3 hL3=>?_)
      revert hx hL3;obtain ⟨i,o,g⟩:=x;intro hx hL3;dsimp only at hx hL3 ⊢
      obtain ⟨hi,hoo⟩:=hx
      have hol:=a5A hkx (i:=i) (k:=t.kind) hi;have hol2:o.length≤200000:=(by rw [hoo,List.length_append,List.length_append];omega)
      refine ru 6 ?_
      refine rvl (a1t p.kids) (rfl) ?_
      refine ru 4 ?_
      refine wdc (fun hr2 hc2=>?_) (fun hr2 hc2=>?_)
      · skip
        have him:i < t.kidsT.length:=(by have h:=hr2;simp [hkid,hrl] at h;omega);have hka:=b3z hat him;have hkt:=a3C hka;have hkd:(e.getD (b+T.sizeL (t.kidsT.take i)+(t.kidsT.getD i default).size - 1) default).kind=(t.kidsT.getD i default).kind:=(by rw [hkt.1,a2t]);have hks:=(t.kidsT.getD i default).size_pos;have hkn:=a2p (k:=t.kind) him;have hp4:t.kind=2∨t.kind=3∨t.kind=4:=(by rcases hkk with h | h | h | h;(exfalso;cases t <;> simp [T.kind,T.kidsT] at h him;subst h;simp [T.ok] at hok);exact .inl h;exact .inr (.inl h);exact .inr (.inr h));have hdoc:=c2z hp4 (b5U (hdk i him));have hroot:=a3T t.kidsT b i him
        refine ru 9 ?_
        refine rvl (a1t p.kids) (rfl) ?_
        refine ru 3 ?_
        refine rvl (a0g ((b+T.sizeL (t.kidsT.take i)+(t.kidsT.getD i default).size - 1:Nat):Int)) (by exact a1V (i:=i) om (by rw [hkid,hroot];unfold T.root;omega)) ?_
        refine ru 3 ?_
        refine rvl (a0g (t.kidsT.getD i default).kind) (a2F om hkd) ?_
        refine ru 3 ?_
        refine a5F (α:=List Sg×Nat) (fun x c=>⟨102,[(0,.v (a5f e)),(1,.v (a0g ((b+t.size - 1:Nat):Int))),(2,.v (a0x bin)),(7,.v (.os 9002 x.2 0 x.1.length)),(8,.v (.pt 8 0 0 0)),(9,.v (a0g i)),(10,.v (a0g (t.kidsT.getD i default).kind))],[(8,⟨0,1,5,188,0,fun _=>ptF p⟩),(9002,c1C x.2 x.1)],c⟩) (fun x=>x.1=b8x bin++a7u t++T.sigL t.kind true (t.kidsT.take i)++orS t.kind (decide (i=0))) (fun NhJ4 hJ4=>?_) (fun x c hx=>?_)
        · refine ru 11 ?_
          refine wdc (fun hr3 hc3=>?_) (fun hr3 hc3=>?_)
          · refine ru 3 ?_
            refine a0p 54 (a0b (id:=54) (hs:=[_]) ei_158.h omx rfl omx ⟨rfl,rfl,rfl,rfl,trivial⟩) rfl rfl a0e rfl rfl (c':=c+1) rfl ?_
            first
            | refine a0p 55 (a0a ei_158.h (by first | exact Nat.le_of_ble_eq_true rfl | omega | (dsimp only;omega) | (simp <;> omega)) rfl (by first | exact Nat.le_of_ble_eq_true rfl | omega | (dsimp only;omega) | (simp <;> omega)) (by first | exact Nat.le_of_ble_eq_true rfl | omega | (dsimp only;omega) | (simp <;> omega)) (a0s rfl (by first | exact Nat.le_of_ble_eq_true rfl | omega | (dsimp only;omega) | (simp <;> omega))) (by first | exact Nat.le_of_ble_eq_true rfl | omega | (dsimp only;omega) | (simp <;> omega)) rfl) rfl rfl (a0h rfl (a0B rfl)) rfl rfl (c':=c+2) rfl ?_
            | refine a0p 55 (a0a ei_158.h (by first | exact Nat.le_of_ble_eq_true rfl | omega | (dsimp only;omega) | (simp <;> omega)) rfl (by first | exact Nat.le_of_ble_eq_true rfl | omega | (dsimp only;omega) | (simp <;> omega)) (by first | exact Nat.le_of_ble_eq_true rfl | omega | (dsimp only;omega) | (simp <;> omega)) (a0D rfl (by first | exact Nat.le_of_ble_eq_true rfl | omega | (dsimp only;omega) | (simp <;> omega))) (by first | exact Nat.le_of_ble_eq_true rfl | omega | (dsimp only;omega) | (simp <;> omega)) rfl) rfl rfl (a0h rfl (a0B rfl)) rfl rfl (c':=c+2) rfl ?_
            | refine a0p 55 (a0a ei_158.h (by first | exact Nat.le_of_ble_eq_true rfl | omega | (dsimp only;omega) | (simp <;> omega)) rfl (by first | exact Nat.le_of_ble_eq_true rfl | omega | (dsimp only;omega) | (simp <;> omega)) (by first | exact Nat.le_of_ble_eq_true rfl | omega | (dsimp only;omega) | (simp <;> omega)) (a0C rfl) (by first | exact Nat.le_of_ble_eq_true rfl | omega | (dsimp only;omega) | (simp <;> omega)) rfl) rfl rfl (a0h rfl a0e) rfl rfl (c':=c+2) rfl ?_
            | refine a0p 55 (a0a ei_158.h (by first | exact Nat.le_of_ble_eq_true rfl | omega | (dsimp only;omega) | (simp <;> omega)) rfl (by first | exact Nat.le_of_ble_eq_true rfl | omega | (dsimp only;omega) | (simp <;> omega)) (by first | exact Nat.le_of_ble_eq_true rfl | omega | (dsimp only;omega) | (simp <;> omega)) (a0u 5 (fun _ _=>default) rfl) (by first | exact Nat.le_of_ble_eq_true rfl | omega | (dsimp only;omega) | (simp <;> omega)) rfl) rfl rfl (a0h rfl a0e) rfl rfl (c':=c+2) rfl ?_
            refine ru 2 ?_
            exact hJ4 ((o++[⟨4,0,0,0,[]⟩],c+1)) _ _ (by (try dsimp only);rw [hoo];unfold orS;rw [if_pos ⟨by rw [←hpk];exact hc3.1,decide_eq_false om⟩]) (a0c rfl (Nat.le_refl _) (tsr rfl (tsr rfl (tsr rfl (a0E.cons rfl (a1G (by simp)) tsa)))) (a0j.cons rfl (.refl _) (a0j.cons rfl (b0I (x:=⟨4,0,0,0,[]⟩) rfl rfl) a0j.nil)))
          refine ru 1 ?_
          exact hJ4 ((o,g)) _ _ (by (try dsimp only);rw [hoo];unfold orS;rw [if_neg (fun h=>by have h1:=of_decide_eq_false h.2;have h2:=hr3;rw [hpk,h.1] at h2;simp at h2;omega),List.append_nil]) (a0c rfl (Nat.le_refl _) tsa hsa)
        · skip
          revert hx;obtain ⟨o,g⟩:=x;intro hx;dsimp only at hx ⊢
          have hor:=b9r t.kind (decide (i=0));have hol2:o.length≤200000:=(by rw [hx];simp only [List.length_append];omega)
          refine ru 4 ?_
          first
          | refine a3y 59 (HOp.val (v':=a1t p.kids) (a0H ty_104.h rfl (by first | exact Nat.le_of_ble_eq_true rfl | omega | (dsimp only;omega) | (simp <;> omega)) (by first | exact Nat.le_of_ble_eq_true rfl | omega | (dsimp only;omega) | (simp <;> omega)) (fun h=>(by first | rfl | cases h))) (rfl)) rfl rfl (a0B rfl) rfl rfl (k':=4) rfl ?_
          | refine a3y 59 (HOp.val (v':=a1t p.kids) (a0q ty_104.h rfl (by first | exact Nat.le_of_ble_eq_true rfl | omega | (dsimp only;omega) | (simp <;> omega)) (fun h=>(by first | rfl | cases h))) (rfl)) rfl rfl a0e rfl rfl (k':=4) rfl ?_
          refine ru 2 ?_
          first
          | refine a3y 62 (HOp.val (v':=a0g ((b+T.sizeL (t.kidsT.take i)+(t.kidsT.getD i default).size - 1:Nat):Int)) (a0H ty_3.h rfl (by first | exact Nat.le_of_ble_eq_true rfl | omega | (dsimp only;omega) | (simp <;> omega)) (by first | exact Nat.le_of_ble_eq_true rfl | omega | (dsimp only;omega) | (simp <;> omega)) (fun h=>(by first | rfl | cases h))) (by exact a1V (i:=i) (by omega) (by rw [hkid,hroot];unfold T.root;omega))) rfl rfl (a0B rfl) rfl rfl (k':=7) rfl ?_
          | refine a3y 62 (HOp.val (v':=a0g ((b+T.sizeL (t.kidsT.take i)+(t.kidsT.getD i default).size - 1:Nat):Int)) (a0q ty_3.h rfl (by first | exact Nat.le_of_ble_eq_true rfl | omega | (dsimp only;omega) | (simp <;> omega)) (fun h=>(by first | rfl | cases h))) (by exact a1V (i:=i) (by omega) (by rw [hkid,hroot];unfold T.root;omega))) rfl rfl a0e rfl rfl (k':=7) rfl ?_
          refine ru 6 ?_
          first
          | refine b0E 69 12 68 true _ (fun hb=>a4v fd_188_0.h rfl) rfl rfl rfl rfl a0e rfl rfl rfl (k':=14) rfl ?_
          | refine a7X 69 12 68 _ _ true _ (fun hb=>a4v fd_188_0.h rfl) rfl rfl rfl rfl a0e rfl (k':=14) rfl ?_
          | refine b0E 69 12 68 true _ (fun hb=>a1U fd_188_0.h rfl (by first | exact Nat.le_of_ble_eq_true rfl | (simp at hb;first | omega | (dsimp only;omega) | (simp <;> omega)) | omega | (dsimp only;omega))) rfl rfl rfl rfl a0e rfl rfl rfl (k':=14) rfl ?_
          | refine a7X 69 12 68 _ _ true _ (fun hb=>a1U fd_188_0.h rfl (by first | exact Nat.le_of_ble_eq_true rfl | (simp at hb;first | omega | (dsimp only;omega) | (simp <;> omega)) | omega | (dsimp only;omega))) rfl rfl rfl rfl a0e rfl (k':=14) rfl ?_
          first
          | refine b0E 70 12 68 true _ (fun hb=>a0H ty_3.h rfl (by first | exact Nat.le_of_ble_eq_true rfl | (simp at hb;first | omega | (dsimp only;omega) | (simp <;> omega)) | omega | (dsimp only;omega)) (by first | exact Nat.le_of_ble_eq_true rfl | (simp at hb;first | omega | (dsimp only;omega) | (simp <;> omega)) | omega | (dsimp only;omega)) (fun h=>(by first | rfl | cases h))) rfl rfl rfl rfl (a0B rfl) rfl rfl rfl (k':=15) rfl ?_
          | refine a7X 70 12 68 _ _ true _ (fun hb=>a0H ty_3.h rfl (by first | exact Nat.le_of_ble_eq_true rfl | (simp at hb;first | omega | (dsimp only;omega) | (simp <;> omega)) | omega | (dsimp only;omega)) (by first | exact Nat.le_of_ble_eq_true rfl | (simp at hb;first | omega | (dsimp only;omega) | (simp <;> omega)) | omega | (dsimp only;omega)) (fun h=>(by first | rfl | cases h))) rfl rfl rfl rfl (a0B rfl) rfl (k':=15) rfl ?_
          | refine b0E 70 12 68 true _ (fun hb=>a0q ty_3.h rfl (by first | exact Nat.le_of_ble_eq_true rfl | (simp at hb;first | omega | (dsimp only;omega) | (simp <;> omega)) | omega | (dsimp only;omega)) (fun h=>(by first | rfl | cases h))) rfl rfl rfl rfl a0e rfl rfl rfl (k':=15) rfl ?_
          | refine a7X 70 12 68 _ _ true _ (fun hb=>a0q ty_3.h rfl (by first | exact Nat.le_of_ble_eq_true rfl | (simp at hb;first | omega | (dsimp only;omega) | (simp <;> omega)) | omega | (dsimp only;omega)) (fun h=>(by first | rfl | cases h))) rfl rfl rfl rfl a0e rfl (k':=15) rfl ?_
          first
          | refine b0E 71 12 68 true _ (fun hb=>b1B rfl rfl) rfl rfl rfl rfl a0e rfl rfl rfl (k':=16) rfl ?_
          | refine a7X 71 12 68 _ _ true _ (fun hb=>b1B rfl rfl) rfl rfl rfl rfl a0e rfl (k':=16) rfl ?_
          first
          | refine b4E 72 (a6c (gi:=9) (j:=65) _ _ rfl rfl rfl rfl) rfl rfl (k':=17) rfl ?_
          | refine b4E 72 (a7g (gi:=9) (j:=65) _ _ rfl rfl rfl rfl) rfl rfl (k':=17) rfl ?_
          | refine b4E 72 (a3p (gi:=9) (j:=65) _ _ _ _ rfl rfl rfl rfl (fun _=>.refl _) (fun _=>.refl _)) rfl rfl (k':=17) rfl ?_
          refine ru 5 ?_
          first
          | refine b0E 78 21 77 true _ (fun hb=>a4v fd_188_0.h rfl) rfl rfl rfl rfl a0e rfl rfl rfl (k':=23) rfl ?_
          | refine a7X 78 21 77 _ _ true _ (fun hb=>a4v fd_188_0.h rfl) rfl rfl rfl rfl a0e rfl (k':=23) rfl ?_
          | refine b0E 78 21 77 true _ (fun hb=>a1U fd_188_0.h rfl (by first | exact Nat.le_of_ble_eq_true rfl | (simp at hb;first | omega | (dsimp only;omega) | (simp <;> omega)) | omega | (dsimp only;omega))) rfl rfl rfl rfl a0e rfl rfl rfl (k':=23) rfl ?_
          | refine a7X 78 21 77 _ _ true _ (fun hb=>a1U fd_188_0.h rfl (by first | exact Nat.le_of_ble_eq_true rfl | (simp at hb;first | omega | (dsimp only;omega) | (simp <;> omega)) | omega | (dsimp only;omega))) rfl rfl rfl rfl a0e rfl (k':=23) rfl ?_
          first
          | refine b0E 79 21 77 true _ (fun hb=>a0H ty_3.h rfl (by first | exact Nat.le_of_ble_eq_true rfl | (simp at hb;first | omega | (dsimp only;omega) | (simp <;> omega)) | omega | (dsimp only;omega)) (by first | exact Nat.le_of_ble_eq_true rfl | (simp at hb;first | omega | (dsimp only;omega) | (simp <;> omega)) | omega | (dsimp only;omega)) (fun h=>(by first | rfl | cases h))) rfl rfl rfl rfl (a0B rfl) rfl rfl rfl (k':=24) rfl ?_
          | refine a7X 79 21 77 _ _ true _ (fun hb=>a0H ty_3.h rfl (by first | exact Nat.le_of_ble_eq_true rfl | (simp at hb;first | omega | (dsimp only;omega) | (simp <;> omega)) | omega | (dsimp only;omega)) (by first | exact Nat.le_of_ble_eq_true rfl | (simp at hb;first | omega | (dsimp only;omega) | (simp <;> omega)) | omega | (dsimp only;omega)) (fun h=>(by first | rfl | cases h))) rfl rfl rfl rfl (a0B rfl) rfl (k':=24) rfl ?_
          | refine b0E 79 21 77 true _ (fun hb=>a0q ty_3.h rfl (by first | exact Nat.le_of_ble_eq_true rfl | (simp at hb;first | omega | (dsimp only;omega) | (simp <;> omega)) | omega | (dsimp only;omega)) (fun h=>(by first | rfl | cases h))) rfl rfl rfl rfl a0e rfl rfl rfl (k':=24) rfl ?_
          | refine a7X 79 21 77 _ _ true _ (fun hb=>a0q ty_3.h rfl (by first | exact Nat.le_of_ble_eq_true rfl | (simp at hb;first | omega | (dsimp only;omega) | (simp <;> omega)) | omega | (dsimp only;omega)) (fun h=>(by first | rfl | cases h))) rfl rfl rfl rfl a0e rfl (k':=24) rfl ?_
          first
          | refine b0E 80 21 77 true _ (fun hb=>b2a rfl rfl) rfl rfl rfl rfl a0e rfl rfl rfl (k':=25) rfl ?_
          | refine a7X 80 21 77 _ _ true _ (fun hb=>b2a rfl rfl) rfl rfl rfl rfl a0e rfl (k':=25) rfl ?_
          first
          | refine b4E 81 (a6c (gi:=18) (j:=74) _ _ rfl rfl rfl rfl) rfl rfl (k':=26) rfl ?_
          | refine b4E 81 (a7g (gi:=18) (j:=74) _ _ rfl rfl rfl rfl) rfl rfl (k':=26) rfl ?_
          | refine b4E 81 (a3p (gi:=18) (j:=74) _ _ _ _ rfl rfl rfl rfl (fun _=>.refl _) (fun _=>.refl _)) rfl rfl (k':=26) rfl ?_
          refine ru 1 ?_
          refine d0 28 (a0l (xs:=[_,_,_]) (ih i him (inB t.kind (t.kidsT.getD i default).kind)) ⟨rfl,⟨rfl,⟨rfl,trivial⟩⟩⟩ ⟨(Fz.eq rfl),⟨(Fz.eq rfl),⟨(a1m (by rw [←hdoc,←hpk];simp only [a7H,Bool.not_eq_true,bne])),trivial⟩⟩⟩) ?_
          first
          | refine a2b 84 (a0a ei_158.h (by first | exact Nat.le_of_ble_eq_true rfl | omega | (dsimp only;omega) | (simp <;> omega)) rfl (by first | exact Nat.le_of_ble_eq_true rfl | omega | (dsimp only;omega) | (simp <;> omega)) (by first | exact Nat.le_of_ble_eq_true rfl | omega | (dsimp only;omega) | (simp <;> omega)) (a0s rfl (by first | exact Nat.le_of_ble_eq_true rfl | omega | (dsimp only;omega) | (simp <;> omega))) (by first | exact Nat.le_of_ble_eq_true rfl | omega | (dsimp only;omega) | (simp <;> omega)) rfl) rfl rfl (a0h rfl (a0B rfl)) rfl rfl (k':=29) rfl ?_
          | refine a2b 84 (a0a ei_158.h (by first | exact Nat.le_of_ble_eq_true rfl | omega | (dsimp only;omega) | (simp <;> omega)) rfl (by first | exact Nat.le_of_ble_eq_true rfl | omega | (dsimp only;omega) | (simp <;> omega)) (by first | exact Nat.le_of_ble_eq_true rfl | omega | (dsimp only;omega) | (simp <;> omega)) (a0D rfl (by first | exact Nat.le_of_ble_eq_true rfl | omega | (dsimp only;omega) | (simp <;> omega))) (by first | exact Nat.le_of_ble_eq_true rfl | omega | (dsimp only;omega) | (simp <;> omega)) rfl) rfl rfl (a0h rfl (a0B rfl)) rfl rfl (k':=29) rfl ?_
          | refine a2b 84 (a0a ei_158.h (by first | exact Nat.le_of_ble_eq_true rfl | omega | (dsimp only;omega) | (simp <;> omega)) rfl (by first | exact Nat.le_of_ble_eq_true rfl | omega | (dsimp only;omega) | (simp <;> omega)) (by first | exact Nat.le_of_ble_eq_true rfl | omega | (dsimp only;omega) | (simp <;> omega)) (a0C rfl) (by first | exact Nat.le_of_ble_eq_true rfl | omega | (dsimp only;omega) | (simp <;> omega)) rfl) rfl rfl (a0h rfl a0e) rfl rfl (k':=29) rfl ?_
          | refine a2b 84 (a0a ei_158.h (by first | exact Nat.le_of_ble_eq_true rfl | omega | (dsimp only;omega) | (simp <;> omega)) rfl (by first | exact Nat.le_of_ble_eq_true rfl | omega | (dsimp only;omega) | (simp <;> omega)) (by first | exact Nat.le_of_ble_eq_true rfl | omega | (dsimp only;omega) | (simp <;> omega)) (a0u 5 (fun _ _=>default) rfl) (by first | exact Nat.le_of_ble_eq_true rfl | omega | (dsimp only;omega) | (simp <;> omega)) rfl) rfl rfl (a0h rfl a0e) rfl rfl (k':=29) rfl ?_
          refine ru 1 ?_
          refine b3n kr kr (c':=c+30) rfl ?_
          refine ru 7 ?_
          exact hL3 ((i+1,o++a1h (inB t.kind (t.kidsT.getD i default).kind) (t.kidsT.getD i default).sig,c+28)) _ _ (by (try dsimp only);exact ⟨by omega,by rw [hx,a3q t.kind t.kidsT i him];simp only [List.append_assoc]⟩) (by (try dsimp only);omega) (a0c rfl (Nat.le_refl _) (tsr rfl (tsr rfl (tsr rfl (a0E.cons rfl (by dsimp only;exact a1G (by rw [List.length_append])) tsa)))) (a0j.cons rfl (.refl _) (a0j.cons rfl (by dsimp only;exact b8h (out:=o) (k:=a1h (inB t.kind (t.kidsT.getD i default).kind) (t.kidsT.getD i default).sig) rfl rfl rfl) a0j.nil)))
      have hit:i=t.kidsT.length:=(by have h:=hr2;simp [hkid,hrl] at h;omega)
      refine ru 2 ?_
      refine a0d ?_
      refine ru 2 ?_
      refine a5F (α:=List Sg×Nat) (fun x c=>⟨102,[(2,.v (a0x bin)),(7,.v (.os 9002 x.2 0 x.1.length)),(8,.v (.pt 8 0 0 0))],[(8,⟨0,1,5,188,0,fun _=>ptF p⟩),(9002,c1C x.2 x.1)],c⟩) (fun x=>x.1=b8x bin++t.sig) (fun NhJ5 hJ5=>?_) (fun x c hx=>?_)
      · refine ru 7 ?_
        refine wdc (fun hr4 hc4=>?_) (fun hr4 hc4=>?_)
        · refine ru 7 ?_
          refine a0p 94 (a0b (id:=94) (hs:=[_]) ei_158.h omx rfl omx ⟨rfl,rfl,rfl,rfl,trivial⟩) rfl rfl a0e rfl rfl (c':=c+1) rfl ?_
          first
          | refine a0p 95 (a0a ei_158.h (by first | exact Nat.le_of_ble_eq_true rfl | omega | (dsimp only;omega) | (simp <;> omega)) rfl (by first | exact Nat.le_of_ble_eq_true rfl | omega | (dsimp only;omega) | (simp <;> omega)) (by first | exact Nat.le_of_ble_eq_true rfl | omega | (dsimp only;omega) | (simp <;> omega)) (a0s rfl (by first | exact Nat.le_of_ble_eq_true rfl | omega | (dsimp only;omega) | (simp <;> omega))) (by first | exact Nat.le_of_ble_eq_true rfl | omega | (dsimp only;omega) | (simp <;> omega)) rfl) rfl rfl (a0h rfl (a0B rfl)) rfl rfl (c':=c+2) rfl ?_
          | refine a0p 95 (a0a ei_158.h (by first | exact Nat.le_of_ble_eq_true rfl | omega | (dsimp only;omega) | (simp <;> omega)) rfl (by first | exact Nat.le_of_ble_eq_true rfl | omega | (dsimp only;omega) | (simp <;> omega)) (by first | exact Nat.le_of_ble_eq_true rfl | omega | (dsimp only;omega) | (simp <;> omega)) (a0D rfl (by first | exact Nat.le_of_ble_eq_true rfl | omega | (dsimp only;omega) | (simp <;> omega))) (by first | exact Nat.le_of_ble_eq_true rfl | omega | (dsimp only;omega) | (simp <;> omega)) rfl) rfl rfl (a0h rfl (a0B rfl)) rfl rfl (c':=c+2) rfl ?_
          | refine a0p 95 (a0a ei_158.h (by first | exact Nat.le_of_ble_eq_true rfl | omega | (dsimp only;omega) | (simp <;> omega)) rfl (by first | exact Nat.le_of_ble_eq_true rfl | omega | (dsimp only;omega) | (simp <;> omega)) (by first | exact Nat.le_of_ble_eq_true rfl | omega | (dsimp only;omega) | (simp <;> omega)) (a0C rfl) (by first | exact Nat.le_of_ble_eq_true rfl | omega | (dsimp only;omega) | (simp <;> omega)) rfl) rfl rfl (a0h rfl a0e) rfl rfl (c':=c+2) rfl ?_
          | refine a0p 95 (a0a ei_158.h (by first | exact Nat.le_of_ble_eq_true rfl | omega | (dsimp only;omega) | (simp <;> omega)) rfl (by first | exact Nat.le_of_ble_eq_true rfl | omega | (dsimp only;omega) | (simp <;> omega)) (by first | exact Nat.le_of_ble_eq_true rfl | omega | (dsimp only;omega) | (simp <;> omega)) (a0u 5 (fun _ _=>default) rfl) (by first | exact Nat.le_of_ble_eq_true rfl | omega | (dsimp only;omega) | (simp <;> omega)) rfl) rfl rfl (a0h rfl a0e) rfl rfl (c':=c+2) rfl ?_
          refine ru 2 ?_
          exact hJ5 ((o++[⟨5,0,p.low,p.high,[]⟩],c+1)) _ _ (by (try dsimp only);rw [hoo,hit,List.take_length,hsk,b5m (b:=b) hok (by rw [htp];exact hc4),htp];simp only [List.append_assoc]) (a0c rfl (Nat.le_refl _) (tsr rfl (a0E.cons rfl (a1G (by simp)) tsa)) (a0j.cons rfl (.refl _) (a0j.cons rfl (b0I (x:=⟨5,0,p.low,p.high,[]⟩) rfl rfl) a0j.nil)))
        refine ru 1 ?_
        exact hJ5 ((o,g)) _ _ (by (try dsimp only);rw [hoo,hit,List.take_length,hsk,b5N (b:=b) (by rw [htp];exact hc4)];simp only [List.append_assoc,List.append_nil]) (a0c rfl (Nat.le_refl _) tsa hsa)
      · skip
        revert hx;obtain ⟨o,g⟩:=x;intro hx;dsimp only at hx ⊢
        have hol2:o.length≤200000:=(by rw [hx];simp only [List.length_append];omega)
        refine a5F (α:=List Sg×Nat) (fun x c=>⟨102,[(7,.v (.os 9002 x.2 0 x.1.length))],[(9002,c1C x.2 x.1)],c⟩) (fun x=>x.1=a1h bin t.sig) (fun NhJ6 hJ6=>?_) (fun x c hx=>?_)
        · refine ru 5 ?_
          refine wdc (fun hr5 hc5=>?_) (fun hr5 hc5=>?_)
          · refine ru 3 ?_
            refine a0p 99 (a0b (id:=99) (hs:=[_]) ei_158.h omx rfl omx ⟨rfl,rfl,rfl,rfl,trivial⟩) rfl rfl a0e rfl rfl (c':=c+1) rfl ?_
            first
            | refine a0p 100 (a0a ei_158.h (by first | exact Nat.le_of_ble_eq_true rfl | omega | (dsimp only;omega) | (simp <;> omega)) rfl (by first | exact Nat.le_of_ble_eq_true rfl | omega | (dsimp only;omega) | (simp <;> omega)) (by first | exact Nat.le_of_ble_eq_true rfl | omega | (dsimp only;omega) | (simp <;> omega)) (a0s rfl (by first | exact Nat.le_of_ble_eq_true rfl | omega | (dsimp only;omega) | (simp <;> omega))) (by first | exact Nat.le_of_ble_eq_true rfl | omega | (dsimp only;omega) | (simp <;> omega)) rfl) rfl rfl (a0h rfl (a0B rfl)) rfl rfl (c':=c+2) rfl ?_
            | refine a0p 100 (a0a ei_158.h (by first | exact Nat.le_of_ble_eq_true rfl | omega | (dsimp only;omega) | (simp <;> omega)) rfl (by first | exact Nat.le_of_ble_eq_true rfl | omega | (dsimp only;omega) | (simp <;> omega)) (by first | exact Nat.le_of_ble_eq_true rfl | omega | (dsimp only;omega) | (simp <;> omega)) (a0D rfl (by first | exact Nat.le_of_ble_eq_true rfl | omega | (dsimp only;omega) | (simp <;> omega))) (by first | exact Nat.le_of_ble_eq_true rfl | omega | (dsimp only;omega) | (simp <;> omega)) rfl) rfl rfl (a0h rfl (a0B rfl)) rfl rfl (c':=c+2) rfl ?_
            | refine a0p 100 (a0a ei_158.h (by first | exact Nat.le_of_ble_eq_true rfl | omega | (dsimp only;omega) | (simp <;> omega)) rfl (by first | exact Nat.le_of_ble_eq_true rfl | omega | (dsimp only;omega) | (simp <;> omega)) (by first | exact Nat.le_of_ble_eq_true rfl | omega | (dsimp only;omega) | (simp <;> omega)) (a0C rfl) (by first | exact Nat.le_of_ble_eq_true rfl | omega | (dsimp only;omega) | (simp <;> omega)) rfl) rfl rfl (a0h rfl a0e) rfl rfl (c':=c+2) rfl ?_
            | refine a0p 100 (a0a ei_158.h (by first | exact Nat.le_of_ble_eq_true rfl | omega | (dsimp only;omega) | (simp <;> omega)) rfl (by first | exact Nat.le_of_ble_eq_true rfl | omega | (dsimp only;omega) | (simp <;> omega)) (by first | exact Nat.le_of_ble_eq_true rfl | omega | (dsimp only;omega) | (simp <;> omega)) (a0u 5 (fun _ _=>default) rfl) (by first | exact Nat.le_of_ble_eq_true rfl | omega | (dsimp only;omega) | (simp <;> omega)) rfl) rfl rfl (a0h rfl a0e) rfl rfl (c':=c+2) rfl ?_
            refine ru 2 ?_
            exact hJ6 ((o++[⟨3,0,0,0,[]⟩],c+1)) _ _ (by (try dsimp only);rw [hx,b4Y];unfold c3m;rw [if_pos hc5]) (a0c rfl (Nat.le_refl _) (a0E.cons rfl (a1G (by simp)) a0E.nil) (a0j.cons rfl (b0I (x:=⟨3,0,0,0,[]⟩) rfl rfl) a0j.nil))
          refine ru 1 ?_
          exact hJ6 ((o,g)) _ _ (by (try dsimp only);rw [hx,b4Y];unfold c3m;rw [if_neg (by rw [hc5];decide),List.append_nil]) (a0c rfl (Nat.le_refl _) tsa hsa)
        · skip
          revert hx;obtain ⟨o,g⟩:=x;intro hx;dsimp only at hx ⊢
          refine ru 7 ?_
          refine a7G rfl (a0k rfl) [(9002,_)] rfl (a0h rfl a0e) ?_
          rw [←hx];exact a1z (l:=o) (enc:=sgF) (d:=default) (List.mem_cons_self ..) rfl rfl (Nat.le_refl _) (fun i j hi hj=>b2q _ j)
@[reducible] def b7f (ls:List (List UInt8)):Nat→Nat→HV:=fun i _=>a0r (ls.getD i [])
@[reducible] def c2B (ls:List (List UInt8)):HV:=.sl 1 ls.length (b7f ls)
@[reducible] def a5y (g:Nat) (ls:List (List UInt8)):HObj:=⟨g,ls.length,1,9,0,b7f ls⟩
instance frz_nmsV (l:List (List UInt8)):Frz (c2B l):=⟨.sl _ _ _ _ fun i j _ _=>.imm _⟩
theorem a3b {kp sh:List (Nat×HObj)} {g:Nat} {l:List (List UInt8)}:OKz kp sh (a5y g l) (a5y g l):=.of fun i j _ _=>.fz _ _ (.imm _)
theorem a6q (a b:List (List UInt8)) (ha:a.length≤1000000):a0t Tryz.prog 22 [c2B a,c2B b] (a0x (decide (a=b))):=by
 refine a0n Tryz.func22 rfl kr _ _ _ rfl 26 rfl rfl (fun w F=>?_)
 refine ru 15 ?_
 refine wdc (fun hr0 hc0=>?_) (fun hr0 hc0=>?_)
 ·refine ru 7 ?_
  refine rt1 ?_
  exact a1m (by symm;simp only [decide_eq_false_iff_not];intro h;subst h;omega)
 refine ru 9 ?_
 refine a0o (α:=Nat) (fun x c=>⟨26,[(0,.v (c2B a)),(1,.v (c2B b)),(5,.v (a0g x))],[],c⟩) (fun x=>x≤a.length∧a.length=b.length∧∀ i,i < x→a.getD i []=b.getD i []) (fun x=>a.length - x) (0) (by exact ⟨Nat.zero_le _,by omega,fun i h=>absurd h (Nat.not_lt_zero _)⟩) (a0c rfl (Nat.le_refl _) tsa a0j.nil) (fun k c hx NhL1 hL1=>?_)
 (try dsimp only at hx hL1 ⊢)
 obtain ⟨hk,hab,hok⟩:=hx
 refine ru 9 ?_
 refine wdc (fun hr1 hc1=>?_) (fun hr1 hc1=>?_)
 ·refine ru 17 ?_
  refine wdc (fun hr2 hc2=>?_) (fun hr2 hc2=>?_)
  ·refine ru 8 ?_
   refine a0f ?_
   refine ru 2 ?_
   refine rt1 ?_
   exact a1m (by symm;simp only [decide_eq_false_iff_not];intro h;subst h;simp at hc2)
  refine ru 8 ?_
  exact hL1 (k+1) _ _ (by (try dsimp only);exact ⟨by omega,hab,fun i hi=>by rcases Nat.lt_or_ge i k with h | h;exact hok i h;have:i=k:=om;subst this;simpa using hc2⟩) (by (try dsimp only);omega) (a0c rfl (Nat.le_refl _) tsa a0j.nil)
 refine ru 2 ?_
 refine a0d ?_
 refine ru 8 ?_
 refine rt1 ?_
 exact a1m (by symm;simp only [decide_eq_true_eq];exact a6T [] hab (fun i h1=>hok i om))
def c1r (l:List (List UInt8)) (s:List UInt8):Int:=if s∈l then (l.idxOf s:Int) else -1
theorem c2Z {l:List (List UInt8)} {s:List UInt8} {k:Nat} (hk:k < l.length) (h:l.getD k []=s) (hn:∀ i,i < k→l.getD i []≠s):c1r l s=(k:Int):=by
 have hk':l[k]=s:=by rwa [List.getD_eq_getElem?_getD,List.getElem?_eq_getElem hk] at h
 have hm:s∈l:=by rw [←hk'];exact List.getElem_mem hk
 unfold c1r
 rw [if_pos hm]
 congr 1
 have hi:=List.idxOf_lt_length_of_mem hm
 have hgi:l[l.idxOf s]=s:=List.getElem_idxOf hi
 rcases Nat.lt_trichotomy (l.idxOf s) k with h1 | h1 | h1
 ·exact absurd (by rw [List.getD_eq_getElem?_getD,List.getElem?_eq_getElem hi];exact hgi) (hn _ h1)
 ·exact h1
 ·have:=List.not_of_lt_findIdx (p:=(· == s)) (xs:=l) (i:=k) h1
  simp [hk'] at this
theorem c2q {l:List (List UInt8)} {s:List UInt8} (hn:∀ i,i < l.length→l.getD i []≠s):c1r l s=-1:=by
 unfold c1r
 rw [if_neg]
 intro hm
 obtain ⟨i,hi,h⟩:=List.mem_iff_getElem.1 hm
 exact hn i hi (by rw [List.getD_eq_getElem?_getD,List.getElem?_eq_getElem hi];exact h)
theorem c1A (l:List (List UInt8)) (s:List UInt8):decide (0≤c1r l s)=decide (s∈l):=by
 unfold c1r
 by_cases h:s∈l
 ·rw [if_pos h,decide_eq_true h,decide_eq_true (by omega)]
 ·rw [if_neg h,decide_eq_false h];rfl
theorem c0h (g:Nat) (l:List (List UInt8)) (s:List UInt8) (hl:l.length≤1000000):a5a Tryz.prog 138 [.os 8001 g 0 l.length,a0r s] [(8001,a5y g l)] (a0g (c1r l s)) [(8001,a5y g l)]:=by
 intro c
 refine a0v Tryz.func138 rfl kr _ _ _ _ rfl 19 rfl rfl (fun X ok hX=>?_)
 refine ru 14 ?_
 refine a0o (α:=Nat) (fun x c=>⟨19,[(0,.v (.os 8001 g 0 l.length)),(1,.v (a0r s)),(7,.v (a0g l.length)),(8,.v (a0g x))],[(8001,a5y g l)],c⟩) (fun x=>x≤l.length∧∀ i,i < x→l.getD i []≠s) (fun x=>l.length - x) (0) (by exact ⟨Nat.zero_le _,fun i h=>absurd h (Nat.not_lt_zero _)⟩) (a0c rfl (Nat.le_refl _) tsa hsa) (fun k c hx NhL1 hL1=>?_)
 (try dsimp only at hx hL1 ⊢)
 obtain ⟨hk,hE⟩:=hx
 refine ru 6 ?_
 refine wdc (fun hr0 hc0=>?_) (fun hr0 hc0=>?_)
 ·refine ru 17 ?_
  refine rvl (a0r (l.getD k [])) (by simp only [Nat.zero_add];rfl) ?_
  refine ru 3 ?_
  refine wdc (fun hr1 hc1=>?_) (fun hr1 hc1=>?_)
  ·skip
   have hks:l.getD k []=s:=(by have h:=hr1;simpa [eq_comm] using h)
   refine ru 9 ?_
   refine a0f ?_
   refine ru 2 ?_
   refine fr1 ok hX rw1 (()) (trivial) (by rw [c2Z om hks hE];exact kza) ?_
   exact ⟨⟨_,rfl,a3b⟩,trivial⟩
  refine ru 7 ?_
  exact hL1 (k+1) _ _ (by (try dsimp only);exact ⟨by omega,fun i hi=>by by_cases e:i=k;(· subst e;exact fun h=>by rw [h] at hr1;simp at hr1);exact hE i om⟩) (by (try dsimp only);omega) (a0c rfl (Nat.le_refl _) tsa hsa)
 refine ru 2 ?_
 refine a0d ?_
 refine ru 8 ?_
 refine fr1 ok hX rw1 (()) (trivial) (by rw [c2q (fun i hi=>hE i om)];exact kza) ?_
 exact ⟨⟨_,rfl,a3b⟩,trivial⟩
theorem a4N (g:Nat) (l:List (List UInt8)) (s:List UInt8) (hl:l.length≤1000000):a5a Tryz.prog 118 [.os 8001 g 0 l.length,a0r s] [(8001,a5y g l)] (a0x (decide (s∈l))) [(8001,a5y g l)]:=by
 intro c
 refine a0v Tryz.func118 rfl kr _ _ _ _ rfl 9 rfl rfl (fun X ok hX=>?_)
 refine ru 9 ?_
 refine a0m 7 (xs:=[_,_]) (pre:=[(8001,_)]) (c0h g l s hl _) ⟨rfl,⟨rfl,trivial⟩⟩ (a0h rfl a0e) rfl rfl (fun u c1 hx1=>?_)
 (try dsimp only)
 refine ru 5 ?_
 refine fr1 ok hX rw1 (()) (trivial) (by rw [←c1A];exact kza) ?_
 exact ⟨⟨_,rfl,a3b⟩,trivial⟩
theorem b8p {kp sh:List (Nat×HObj)} {l o':List (List UInt8)} {x:List UInt8} {g n ty:Nat} {f:Nat→Nat→HV} (ho:l++[x]=o') (hn:n=l.length:=by rfl) (h0:f 0 0=a0r x:=by rfl):OKz kp sh ⟨g,n+1,1,ty,0,cat n (b7f l) f⟩ ⟨g,o'.length,1,ty,0,b7f o'⟩:=by
 subst hn;subst ho
 refine ⟨rfl,by simp,rfl,rfl,Nat.le_refl _,fun i j hi hj=>.fz _ _ ?_,fun h=>absurd h (Nat.not_lt_zero _)⟩
 show Fz sh (cat l.length (b7f l) f i j) (a0r ((l++[x]).getD i []))
 by_cases h':i < l.length
 ·rw [a6s h',a4m h'];exact .imm _
 ·have hi':i=l.length:=by simp only at hi;omega
  subst hi'
  obtain rfl:j=0:=by simp only at hj;omega
  rw [a6x (Nat.le_refl _),Nat.sub_self,a2u,h0];exact .imm _
theorem a6V (s:Bs) (hs:s.length≤1000000):a0t Tryz.prog 37 [a0r s] (a0x (a2P s)):=by
 refine a0n Tryz.func37 rfl kr _ _ _ rfl 27 rfl rfl (fun w F=>?_)
 refine ru 8 ?_
 refine a0m 8 (xs:=[_]) (pre:=[]) (b5A _ s hs) ⟨rfl,trivial⟩ a0e rfl rfl (fun r c1 hr=>?_)
 (try dsimp only)
 refine ru 23 ?_
 refine ry (a0r (r.1.getD 0 default).name) rfl (fun hb=>rfl) ?_
 refine ru 7 ?_
 refine rt1 ?_
 exact a1m (by rw [←b4v hr];simp [a7H,b7E])
theorem b5b (s:Bs) (hs:s.length≤1000000):a0t Tryz.prog 62 [a0r s] (t2 (a0g ((a2U s).getD 0)) (a0x (a1v s).isSome)):=by
  have hv:(a1v s).isSome=((a2U s).isSome&&decide ((a2U s).getD 0≥0)&&decide ((a2U s).getD 0≤999)):=by
    unfold a1v
    cases a2U s with
    | none=>rfl
    | some n =>
      show (if 0≤n∧n≤999 then some n else none).isSome=(true&&decide (n≥0)&&decide (n≤999))
      by_cases h1:0≤n <;> by_cases h2:n≤999 <;> simp [h1,h2]
  refine a0n Tryz.func62 rfl kr _ _ _ rfl 21 rfl rfl (fun w F=>?_)
  refine ru 9 ?_
  refine cll (c3Z s om) ?_
  refine ru 24 ?_
  refine rt2 ?_
  exact a1r (.imm _) (a1m (by rw [hv]))
@[reducible] def c4t (o:Option (List Bs)):HV:=t2 (a1a (o.getD [])) (a0x o.isSome)
theorem c3Q (s:Bs) (hs:s.length≤1000000):a0t Tryz.prog 91 [a0r s] (c4t (b2l s)):=by
 have hN:=a2E 44 s
 refine b5s Tryz.func91 rfl kr _ _ _ rfl 22 rfl rfl (fun w F=>?_)
 refine ru 15 ?_
 refine a0m 7 (xs:=[_,_]) (pre:=[]) (c3F _ s 44) ⟨rfl,⟨rfl,trivial⟩⟩ a0e rfl rfl (fun q c1 hx1=>?_)
 (try dsimp only)
 refine ru 3 ?_
 refine (a1l 4 0 8001 1 9 (b7f []) (fun _ _=>.os 8001 c1 0 0) rfl rfl (fun j hj=>.inl ⟨by omega,rfl⟩) (by decide) (by decide) (c':=c1+1) rfl).wp ?_
 refine b6U (α:=Nat×List Bs×Nat) (bid:=6101) (gb:=q) ⟨rfl,rfl,rfl⟩ (c3b s 44 hs) rfl (cs:=[_]) rfl (fun i hi=>by rcases i with _ | i <;> first | rfl | (rcases i with _ | i <;> first | rfl | (rcases i with _ | i <;> first | rfl | (rcases i with _ | i <;> first | rfl | (exact absurd hi (by simp)))))) (Fz.eq rfl) ⟨(Fz.eq rfl),trivial⟩ rfl (fun _=>rfl) rfl (fun x=>[(2,⟨0,1,1,44,0,fun _ _=>.imm (.slice none 0 0)⟩),(3,⟨1,1,1,4,0,fun _ _=>a0x false⟩),(4,⟨2,1,1,44,0,fun _ _=>.os 8001 x.2.2 0 x.2.1.length⟩),(8001,a5y x.2.2 x.2.1)]) (fun x=>x.1) (fun x=>x.1≤(a0i 44 s).length∧x.2.1.length=x.1∧a7T ((a0i 44 s).drop x.1) x.2.1=b2l s) ((0,[],c1)) (by exact ⟨Nat.zero_le _,rfl,rfl⟩) (by first | rfl | omega) (hsr rfl (a0j.cons rfl (b4p (.refl _)) (a0j.cons rfl (b4p (.refl _)) hsa))) rfl (fun x vq c hx hi C1 lr hC1 NhR1 hR1=>?_) (fun x vq c hx hi=>?_)
 ·skip
  revert hx hi hR1;obtain ⟨i,out,g⟩:=x;intro hx hi hR1;dsimp only at hx hi hR1 ⊢
  obtain ⟨hx1,hx2,hx3⟩:=hx
  have hwl:((a0i 44 s).getD i []).length≤1000000:=Nat.le_trans (b2b hi) hs;obtain ⟨v_,hv_⟩:∃ v_,(a0i 44 s).getD i []=v_:=⟨_,rfl⟩;rw [hv_] at hwl ⊢;have hd_:(a0i 44 s).drop i=v_::(a0i 44 s).drop (i+1):=(by rw [List.drop_eq_getElem_cons hi,←hv_,List.getD_eq_getElem?_getD,List.getElem?_eq_getElem hi];rfl);rw [hd_] at hx3
  refine ru 3 ?_
  refine hR1 _ (fun C2 hC2=>?_)
  refine ru 5 ?_
  refine cll (a6V v_ hwl) ?_
  refine ru 4 ?_
  first
  | refine a4c 15 3 12 false _ (fun hb=>a0y (xs:=[_,_]) (pre:=[(8001,_)]) (a4N g out v_ (by omega)) ⟨rfl,⟨rfl,trivial⟩⟩) rfl rfl rfl rfl (a0h rfl a0e) rfl rfl rfl ?_
  | refine a3z 15 3 12 _ _ false _ (fun hb=>a0y (xs:=[_,_]) (pre:=[(8001,_)]) (a4N g out v_ (by omega)) ⟨rfl,⟨rfl,trivial⟩⟩) rfl rfl rfl rfl (a0h rfl a0e) rfl rfl rfl ?_
  refine ru 3 ?_
  refine wdc (fun hr0 hc0=>?_) (fun hr0 hc0=>?_)
  ·skip
   have hno:b2l s=none:=(by rw [←hx3];unfold a7T;rw [if_neg (fun hh=>by rcases hc0 with h | h;(rw [hh.1] at h;cases h);exact hh.2 h)])
   refine ru 9 ?_
   refine c1W ?_
   refine ru 2 ?_
   refine b5d ?_
   refine rt2 ?_
   rw [hno];exact a1r (.nil _ _ _ (by decide) _) (.imm _)
  have hx4:a7T ((a0i 44 s).drop (i+1)) (out++[v_])=b2l s:=(by rw [←hx3];show _=(if a2P v_=true∧v_∉out then _ else _);rw [if_pos (by simpa using hc0)])
  refine ru 5 ?_
  refine a0p 19 (a0b (id:=19) (hs:=[_]) ei_44.h omx rfl omx ⟨rfl,rfl,rfl,rfl,trivial⟩) rfl rfl a0e rfl rfl (c':=c+1) rfl ?_
  first
  | refine a0p 20 (a0a ei_44.h (by first | exact Nat.le_of_ble_eq_true rfl | omega | (dsimp only;omega) | (simp <;> omega)) rfl (by first | exact Nat.le_of_ble_eq_true rfl | omega | (dsimp only;omega) | (simp <;> omega)) (by first | exact Nat.le_of_ble_eq_true rfl | omega | (dsimp only;omega) | (simp <;> omega)) (a0s rfl (by first | exact Nat.le_of_ble_eq_true rfl | omega | (dsimp only;omega) | (simp <;> omega))) (by first | exact Nat.le_of_ble_eq_true rfl | omega | (dsimp only;omega) | (simp <;> omega)) rfl) rfl rfl (a0h rfl (a0B rfl)) rfl rfl (c':=c+2) rfl ?_
  | refine a0p 20 (a0a ei_44.h (by first | exact Nat.le_of_ble_eq_true rfl | omega | (dsimp only;omega) | (simp <;> omega)) rfl (by first | exact Nat.le_of_ble_eq_true rfl | omega | (dsimp only;omega) | (simp <;> omega)) (by first | exact Nat.le_of_ble_eq_true rfl | omega | (dsimp only;omega) | (simp <;> omega)) (a0D rfl (by first | exact Nat.le_of_ble_eq_true rfl | omega | (dsimp only;omega) | (simp <;> omega))) (by first | exact Nat.le_of_ble_eq_true rfl | omega | (dsimp only;omega) | (simp <;> omega)) rfl) rfl rfl (a0h rfl (a0B rfl)) rfl rfl (c':=c+2) rfl ?_
  | refine a0p 20 (a0a ei_44.h (by first | exact Nat.le_of_ble_eq_true rfl | omega | (dsimp only;omega) | (simp <;> omega)) rfl (by first | exact Nat.le_of_ble_eq_true rfl | omega | (dsimp only;omega) | (simp <;> omega)) (by first | exact Nat.le_of_ble_eq_true rfl | omega | (dsimp only;omega) | (simp <;> omega)) (a0C rfl) (by first | exact Nat.le_of_ble_eq_true rfl | omega | (dsimp only;omega) | (simp <;> omega)) rfl) rfl rfl (a0h rfl a0e) rfl rfl (c':=c+2) rfl ?_
  | refine a0p 20 (a0a ei_44.h (by first | exact Nat.le_of_ble_eq_true rfl | omega | (dsimp only;omega) | (simp <;> omega)) rfl (by first | exact Nat.le_of_ble_eq_true rfl | omega | (dsimp only;omega) | (simp <;> omega)) (by first | exact Nat.le_of_ble_eq_true rfl | omega | (dsimp only;omega) | (simp <;> omega)) (a0u 1 (fun _ _=>default) rfl) (by first | exact Nat.le_of_ble_eq_true rfl | omega | (dsimp only;omega) | (simp <;> omega)) rfl) rfl rfl (a0h rfl a0e) rfl rfl (c':=c+2) rfl ?_
  refine ru 3 ?_
  exact b4P ⟨(i+1,out++[v_],c+1),by (try dsimp only);exact ⟨hi,by simp [hx2],hx4⟩,by first | rfl | omega,(hsr rfl (hsr rfl (hsr rfl (a0j.cons rfl (b4p (a1G (by simp))) (a0j.cons rfl (a0w (enc:=fun x _=>a0r x) (d:=[]) rfl (fun i j hi hj=>.refl _) (fun j hj=>.refl _)) a0j.nil)))))⟩
 ·skip
  revert hx hi;obtain ⟨i,out,g⟩:=x;intro hx hi;dsimp only at hx hi ⊢
  obtain ⟨hx1,hx2,hx3⟩:=hx
  have hx5:b2l s=some out:=(by rw [←hx3,hi,List.drop_of_length_le (Nat.le_refl _)];rfl)
  refine ru 10 ?_
  refine b5d ?_
  refine a4B rfl (a0N rfl rfl ty_44.h rqc rfl rfl) (a0N rfl rfl ty_4.h rqc rfl rfl) [(8001,_)] rfl (a0h rfl a0e) ?_
  rw [hx5];exact a1r (a1z (l:=out) (enc:=fun x _=>a0r x) (d:=[]) (List.mem_cons_self ..) rfl rfl (Nat.le_refl _) (fun i j hi hj=>.imm _)) (.imm _)
theorem b9v (s:Bs) (hs:s.length≤1000000):a0t Tryz.prog 63 [a0r s] (t3 (a0x ((a0T s).getD (false,[])).1) (a1a ((a0T s).getD (false,[])).2) (a0x (a0T s).isSome)):=by
 refine a0n Tryz.func63 rfl kr _ _ _ rfl 16 rfl rfl (fun w F=>?_)
 refine ru 14 ?_
 refine wdc (fun hr0 hc0=>?_) (fun hr0 hc0=>?_)
 ·skip
  have hl:a0T s=some (true,[]):=(by unfold a0T;rw [if_pos (by simpa using hr0)])
  refine ru 9 ?_
  refine rt3 ?_
  rw [hl];exact a1q (.imm _) (.nil _ _ _ (by decide) _) (.imm _)
 have hl:a0T s=(b2l s).map (fun l=>(false,l)):=(by unfold a0T;rw [if_neg (by simpa using hr0)])
 refine ru 5 ?_
 refine cll (c3Q s hs) ?_
 refine ru 17 ?_
 refine rt3 ?_
 rw [hl];cases b2l s with | none=>exact a1q (.imm _) (show Fz _ (a1a []) (a1a []) from .sl _ _ _ _ fun _ _ _ _=>.imm _) (.imm _) | some l=>exact a1q (.imm _) (show Fz _ (a1a l) (a1a l) from .sl _ _ _ _ fun _ _ _ _=>.imm _) (.imm _)
@[reducible] def ndG (n:Nd) (g k:Nat):Nat→HV:=fun j=>match j with
 | 0=>a0r n.name
 | 1=>.os 8001 g 0 k
 | 2=>a0x n.inl
 | 3=>a0x n.pick
 | 4=>a0x n.leaf
 | 5=>a0g n.attr
 | 6=>a0x n.all
 | 7=>a1a n.marks
 | _=>a0r n.expr
@[reducible] def ndO (g0:Nat) (n:Nd) (g k:Nat):HObj:=⟨g0,1,9,46,0,fun _=>ndG n g k⟩
theorem c1J {kp sh:List (Nat×HObj)} {g ty:Nat} {f f':Nat→Nat→HV} (h:∀ j,j < 9→Kz kp sh (f 0 j) (f' 0 j)):OKz kp sh ⟨g,1,9,ty,0,f⟩ ⟨g,1,9,ty,0,f'⟩:=.of fun i j hi hj=>by
 obtain rfl:i=0:=by omega
 exact h j hj
theorem a5Z {kp sh:List (Nat×HObj)} (l:List Bs):Kz kp sh (a1a l) (a1a l):=.fz _ _ (.sl _ _ _ _ fun _ _ _ _=>.imm _)
theorem b2V {kp sh:List (Nat×HObj)} {a b:Bool} (h:a=b):Kz kp sh (a0x a) (a0x b):=by subst h;exact .fz _ _ (.imm _)
theorem b9X {kp sh:List (Nat×HObj)} {id g g' n n':Nat} {o:HObj} (h:g=g') (k:n=n') (ho:hget kp id=some o) (hg:o.g=g):Kz kp sh (.os id g 0 n) (.os id g' 0 n'):=by subst h;subst k;exact .os _ _ _ _ _ ho hg
theorem b8f (c g0 g:Nat) (n:Nd) (v:Bs):a3k Tryz.prog 86 c [.pt 4 g0 0 0,a0r v] [(4,ndO g0 n g n.groups.length),(8001,a5y g n.groups)] (a5r (fun (_:Unit) _=>True) (fun _=>a0x true) (fun _=>[(4,ndO g0 { n with inl:=true } g n.groups.length),(8001,a5y g n.groups)])):=by
 refine a0v Tryz.func86 rfl kr _ _ _ _ rfl 8 rfl rfl (fun X ok hX=>?_)
 refine ru 19 ?_
 refine fr1 ok hX rw1 (()) (trivial) (kza) ?_
 exact ⟨⟨_,rfl,c1J (by exact q9 (.fz _ _ (.imm _)) (.os _ _ _ _ _ rfl rfl) (.fz _ _ (.imm _)) (.fz _ _ (.imm _)) (.fz _ _ (.imm _)) (.fz _ _ (.imm _)) (.fz _ _ (.imm _)) (a5Z _) (.fz _ _ (.imm _)))⟩,⟨⟨_,rfl,a3b⟩,trivial⟩⟩
theorem b7k (c g0 g:Nat) (n:Nd) (v:Bs):a3k Tryz.prog 87 c [.pt 4 g0 0 0,a0r v] [(4,ndO g0 n g n.groups.length),(8001,a5y g n.groups)] (a5r (fun (_:Unit) _=>True) (fun _=>a0x true) (fun _=>[(4,ndO g0 { n with pick:=true } g n.groups.length),(8001,a5y g n.groups)])):=by
 refine a0v Tryz.func87 rfl kr _ _ _ _ rfl 8 rfl rfl (fun X ok hX=>?_)
 refine ru 19 ?_
 refine fr1 ok hX rw1 (()) (trivial) (kza) ?_
 exact ⟨⟨_,rfl,c1J (by exact q9 (.fz _ _ (.imm _)) (.os _ _ _ _ _ rfl rfl) (.fz _ _ (.imm _)) (.fz _ _ (.imm _)) (.fz _ _ (.imm _)) (.fz _ _ (.imm _)) (.fz _ _ (.imm _)) (a5Z _) (.fz _ _ (.imm _)))⟩,⟨⟨_,rfl,a3b⟩,trivial⟩⟩
theorem c2W (c g0 g:Nat) (n:Nd) (v:Bs) (hv:v.length≤1000000):a3k Tryz.prog 88 c [.pt 4 g0 0 0,a0r v] [(4,ndO g0 n g n.groups.length),(8001,a5y g n.groups)] (a5r (fun (_:Unit) _=>True) (fun _=>a0x (a1v v).isSome) (fun _=>[(4,ndO g0 { n with attr:=(a2U v).getD 0 } g n.groups.length),(8001,a5y g n.groups)])):=by
 refine a0v Tryz.func88 rfl kr _ _ _ _ rfl 17 rfl rfl (fun X ok hX=>?_)
 refine ru 8 ?_
 refine cll (b5b v hv) ?_
 refine ru 23 ?_
 refine fr1 ok hX rw1 (()) (trivial) (kza) ?_
 exact ⟨⟨_,rfl,c1J (by exact q9 (.fz _ _ (.imm _)) (.os _ _ _ _ _ rfl rfl) (.fz _ _ (.imm _)) (.fz _ _ (.imm _)) (.fz _ _ (.imm _)) (.fz _ _ (.imm _)) (.fz _ _ (.imm _)) (a5Z _) (.fz _ _ (.imm _)))⟩,⟨⟨_,rfl,a3b⟩,trivial⟩⟩
theorem b9L (c g0 g:Nat) (n:Nd) (v:Bs) (hv:v.length≤1000000):a3k Tryz.prog 89 c [.pt 4 g0 0 0,a0r v] [(4,ndO g0 n g n.groups.length),(8001,a5y g n.groups)] (a5r (fun (_:Unit) _=>True) (fun _=>a0x (a0T v).isSome) (fun _=>[(4,ndO g0 { n with all:=((a0T v).getD (false,[])).1,marks:=((a0T v).getD (false,[])).2 } g n.groups.length),(8001,a5y g n.groups)])):=by
 refine a0v Tryz.func89 rfl kr _ _ _ _ rfl 23 rfl rfl (fun X ok hX=>?_)
 refine ru 8 ?_
 refine cll (b9v v hv) ?_
 refine ru 30 ?_
 refine fr1 ok hX rw1 (()) (trivial) (kza) ?_
 exact ⟨⟨_,rfl,c1J (by exact q9 (.fz _ _ (.imm _)) (.os _ _ _ _ _ rfl rfl) (.fz _ _ (.imm _)) (.fz _ _ (.imm _)) (.fz _ _ (.imm _)) (.fz _ _ (.imm _)) (.fz _ _ (.imm _)) (a5Z _) (.fz _ _ (.imm _)))⟩,⟨⟨_,rfl,a3b⟩,trivial⟩⟩
theorem c0c (c g0 g:Nat) (n:Nd) (v:Bs) (hv:v.length≤1000000) (hn:n.groups.length≤4):a3k Tryz.prog 85 c [.pt 4 g0 0 0,a0r v] [(4,ndO g0 n g n.groups.length),(8001,a5y g n.groups)] (a5r (fun (q:Nat) _=>True) (fun _=>a0x (a1y 0 n v).2) (fun q=>[(4,ndO g0 (a1y 0 n v).1 q (a1y 0 n v).1.groups.length),(8001,a5y q (a1y 0 n v).1.groups)])):=by
 refine a0v Tryz.func85 rfl kr _ _ _ _ rfl 34 rfl rfl (fun X ok hX=>?_)
 refine ru 9 ?_
 refine cll (a6V v hv) ?_
 refine ru 7 ?_
 first
 | refine a4c 14 3 8 false _ (fun hb=>a0y (xs:=[_,_]) (pre:=[(8001,_)]) (a4N g n.groups v (by omega)) ⟨rfl,⟨rfl,trivial⟩⟩) rfl rfl rfl rfl (a0h rfl a0e) rfl rfl rfl ?_
 | refine a3z 14 3 8 _ _ false _ (fun hb=>a0y (xs:=[_,_]) (pre:=[(8001,_)]) (a4N g n.groups v (by omega)) ⟨rfl,⟨rfl,trivial⟩⟩) rfl rfl rfl rfl (a0h rfl a0e) rfl rfl rfl ?_
 refine ru 11 ?_
 refine wdc (fun hr0 hc0=>?_) (fun hr0 hc0=>?_)
 ·skip
  have hR:a1y 0 n v=(n,false):=(by unfold a1y;rw [if_pos rfl,if_neg (fun hh=>by obtain ⟨q1,q2,q3⟩:=hh;have h9:=hr0;simp [q1,q2] at h9;omega)])
  refine ru 7 ?_
  refine fr1 ok hX rw1 (g) (trivial) ((b2V (by rw [hR]))) ?_
  exact ⟨⟨_,rfl,(by rw [hR];exact c1J (by exact q9 (.fz _ _ (.imm _)) (.os _ _ _ _ _ rfl rfl) (.fz _ _ (.imm _)) (.fz _ _ (.imm _)) (.fz _ _ (.imm _)) (.fz _ _ (.imm _)) (.fz _ _ (.imm _)) (a5Z _) (.fz _ _ (.imm _))))⟩,⟨⟨_,rfl,(by rw [hR];exact a3b)⟩,trivial⟩⟩
 have hR:a1y 0 n v=({ n with groups:=n.groups++[v] },true):=(by unfold a1y;rw [if_pos rfl,if_pos (by have h9:=hr0;simp at h9;exact ⟨h9.1.1,h9.1.2,by omega⟩)])
 refine ru 10 ?_
 refine a0p 30 (a0b (id:=30) (hs:=[_]) ei_44.h omx rfl omx ⟨rfl,rfl,rfl,rfl,trivial⟩) rfl rfl a0e rfl rfl (c':=c+1) rfl ?_
 first
 | refine a0p 31 (a0a ei_44.h (by first | exact Nat.le_of_ble_eq_true rfl | omega | (dsimp only;omega) | (simp <;> omega)) rfl (by first | exact Nat.le_of_ble_eq_true rfl | omega | (dsimp only;omega) | (simp <;> omega)) (by first | exact Nat.le_of_ble_eq_true rfl | omega | (dsimp only;omega) | (simp <;> omega)) (a0s rfl (by first | exact Nat.le_of_ble_eq_true rfl | omega | (dsimp only;omega) | (simp <;> omega))) (by first | exact Nat.le_of_ble_eq_true rfl | omega | (dsimp only;omega) | (simp <;> omega)) rfl) rfl rfl (a0h rfl (a0B rfl)) rfl rfl (c':=c+2) rfl ?_
 | refine a0p 31 (a0a ei_44.h (by first | exact Nat.le_of_ble_eq_true rfl | omega | (dsimp only;omega) | (simp <;> omega)) rfl (by first | exact Nat.le_of_ble_eq_true rfl | omega | (dsimp only;omega) | (simp <;> omega)) (by first | exact Nat.le_of_ble_eq_true rfl | omega | (dsimp only;omega) | (simp <;> omega)) (a0D rfl (by first | exact Nat.le_of_ble_eq_true rfl | omega | (dsimp only;omega) | (simp <;> omega))) (by first | exact Nat.le_of_ble_eq_true rfl | omega | (dsimp only;omega) | (simp <;> omega)) rfl) rfl rfl (a0h rfl (a0B rfl)) rfl rfl (c':=c+2) rfl ?_
 | refine a0p 31 (a0a ei_44.h (by first | exact Nat.le_of_ble_eq_true rfl | omega | (dsimp only;omega) | (simp <;> omega)) rfl (by first | exact Nat.le_of_ble_eq_true rfl | omega | (dsimp only;omega) | (simp <;> omega)) (by first | exact Nat.le_of_ble_eq_true rfl | omega | (dsimp only;omega) | (simp <;> omega)) (a0C rfl) (by first | exact Nat.le_of_ble_eq_true rfl | omega | (dsimp only;omega) | (simp <;> omega)) rfl) rfl rfl (a0h rfl a0e) rfl rfl (c':=c+2) rfl ?_
 | refine a0p 31 (a0a ei_44.h (by first | exact Nat.le_of_ble_eq_true rfl | omega | (dsimp only;omega) | (simp <;> omega)) rfl (by first | exact Nat.le_of_ble_eq_true rfl | omega | (dsimp only;omega) | (simp <;> omega)) (by first | exact Nat.le_of_ble_eq_true rfl | omega | (dsimp only;omega) | (simp <;> omega)) (a0u 1 (fun _ _=>default) rfl) (by first | exact Nat.le_of_ble_eq_true rfl | omega | (dsimp only;omega) | (simp <;> omega)) rfl) rfl rfl (a0h rfl a0e) rfl rfl (c':=c+2) rfl ?_
 refine ru 11 ?_
 refine fr1 ok hX rw1 (c+1) (trivial) ((b2V (by rw [hR]))) ?_
 exact ⟨⟨_,rfl,(by rw [hR];exact c1J (by exact q9 (.fz _ _ (.imm _)) (b9X rfl (by simp) rfl rfl) (.fz _ _ (.imm _)) (.fz _ _ (.imm _)) (.fz _ _ (.imm _)) (.fz _ _ (.imm _)) (.fz _ _ (.imm _)) (a5Z _) (.fz _ _ (.imm _))))⟩,⟨⟨_,rfl,(by rw [hR];exact b8p rfl)⟩,trivial⟩⟩
set_option linter.unusedSectionVars false
@[reducible] def b2F (g:Nat) (l:List (Value×Value)):HObj:=⟨g,0,2,0,1,fun _ _=>.imm (.tuple (l.map fun p=>Value.tuple #[p.1,p.2]).toArray)⟩
theorem b7G {o:HObj} {ob:Obj} {g:Nat} {l:List (Value×Value)} (h:RawIs o ob) (ho:o=b2F g l):∃ es,ob=.map es es.size∧es.toList.map (fun e=>(e.key,e.val))=l∧∀ (i:Nat) (e:MapEntry),es[i]?=some e→e.born=i:=by
  cases h with
  | iter g' ty' s' p'=>injection ho with _ _ hs;cases hs
  | map g' ty' es c hc hb =>
    subst hc
    injection ho with _ _ _ _ _ hf
    have h0:=congrFun (congrFun hf 0) 0
    injection h0 with h0
    injection h0 with h0
    refine ⟨es,rfl,?_,hb⟩
    have h1:=congrArg Array.toList h0
    simp only [Array.toList_map] at h1
    have h2:(es.toList.map fun e=>(e.key,e.val)).map (fun p=>Value.tuple #[p.1,p.2])=l.map fun p=>Value.tuple #[p.1,p.2]:=by
      rw [List.map_map];exact h1
    refine (List.map_inj_right (fun p q hpq=>?_)).1 h2
    injection hpq with hpq
    have a1:p.1=q.1:=by have:=congrArg (fun a=>a[0]?) hpq;simpa using this
    have a2:p.2=q.2:=by have:=congrArg (fun a=>a[1]?) hpq;simpa using this
    exact Prod.ext a1 a2
theorem b6D (g:Nat) (es:Array MapEntry) (l:List (Value×Value)) (h:es.toList.map (fun e=>(e.key,e.val))=l) (hb:∀ (i:Nat) (e:MapEntry),es[i]?=some e→e.born=i):RawIs (b2F g l) (.map es es.size):=by
 have e:b2F g l=⟨g,0,2,0,1,fun _ _=>.imm (.tuple (es.map fun e=>.tuple #[e.key,e.val]))⟩:=by
  unfold b2F
  congr 1
  funext i j
  congr 2
  subst h
  rw [List.map_map]
  apply Array.ext'
  simp
 rw [e];exact .map g 0 es _ rfl hb
section
variable {K:Nat→Prop} {w0 w w':World} {F0:Addr→Prop} {E E':Env} {h h':Nat→Option HObj}
theorem R.mapAt (r:R K w0 F0 E h w) {id g:Nat} {l:List (Value×Value)} (ho:h id=some (b2F g l)):∃ lc b es,E.L id=some lc∧lc.g=g∧lc.A=some b∧w.heap[b]?=some (.map es es.size)∧es.toList.map (fun e=>(e.key,e.val))=l∧∀ (i:Nat) (e:MapEntry),es[i]?=some e→e.born=i:=by
 obtain ⟨lc,hl,a⟩:=r.obj id _ ho
 rcases a.at_ with ⟨h0,h1,h2,h3⟩ | ⟨b,cs,h1,h2,h3,h4,h5,h6,h8,h9⟩ | ⟨b,ob,h1,h2,h3,h4⟩
 ·exact absurd h3 (by show ¬ (1≤0);omega)
 ·exact absurd h9.2 (by show ¬ (1≤0);omega)
 ·obtain ⟨es,rfl,e,hb⟩:=b7G h3 rfl
  exact ⟨lc,b,es,hl,a.g,h1,h2,e,hb⟩
theorem R.setMap (r:R K w0 F0 E h w) {id g:Nat} {l l':List (Value×Value)} {lc:Loc} {b:Nat} {es es':Array MapEntry} {c:Nat} (ho:h id=some (b2F g l)) (hl:E.L id=some lc) (hb:lc.A=some b) (hw:w.heap[b]?=some (.map es c)) (he:es'.toList.map (fun e=>(e.key,e.val))=l') (hbn:∀ (i:Nat) (e:MapEntry),es'[i]?=some e→e.born=i) :
  Ext w E { w with heap:=w.heap.setIfInBounds b (.map es' es'.size) } E∧R K w0 F0 E (a2G h id (b2F g l')) { w with heap:=w.heap.setIfInBounds b (.map es' es'.size) }:=by
 obtain ⟨l2,hl',a⟩:=r.obj id _ ho
 rw [hl] at hl';injection hl' with hl';subst hl'
 have hlt:=a.lt hb
 refine r.write id _ _ lc b ho hl hb rfl rfl rfl (by simp) (fun k hk=>?_) (fun k hk=>?_) (fun e=>⟨a.g,a.G,a.sz,a.pos,.inr (.inr ⟨b,_,hb,?_,b6D g es' l' he hbn,a.notK hb⟩)⟩)
 ·show (w.heap.setIfInBounds b _)[k]?=_
  rw [Array.getElem?_setIfInBounds_ne (Ne.symm hk)]
 ·have:=(r.frz _ hk).2
  simp [World.cell?,hw] at this
 ·show (w.heap.setIfInBounds b _)[b]?=_
  rw [Array.getElem?_setIfInBounds_self_of_lt hlt]
end
def mfind {α:Type} [DecidableEq α] (a:α):List (α×Value)→Nat→Option (Nat×Value)
 | [],_=>none
 | p::r,i=>if a=p.1 then some (i,p.2) else mfind a r (i+1)
def c0K {α:Type} [DecidableEq α] (l:List (α×Value)) (a:α):Option Value:=(mfind a l 0).map (·.2)
def c2l {α:Type} [DecidableEq α] (l:List (α×Value)) (a:α) (v:Value):List (α×Value):=match mfind a l 0 with | some (i,_)=>l.set i (a,v) | none=>l++[(a,v)]
@[reducible] def encL {α:Type} (enc:α→Value) (l:List (α×Value)):List (Value×Value):=l.map fun p=>(enc p.1,p.2)
structure KeyOk (P:Program) (T:TypeId) (α:Type) [DecidableEq α] (enc:α→Value) (zero:Value):Prop where
 all:∃ kt et,P.underlying T=some (.map kt et)∧(∀ w,(zeroValue et).run P w=.ok zero w)∧(∀ b a w,(Instr.checkKey b 10000 kt (enc a)).run P w=.ok () w) ∧
  (∀ a (es:List MapEntry) (l:List (α×Value)),es.map (fun e=>(e.key,e.val))=encL enc l→∀ w,(Instr.findKey kt (enc a) es).run P w=.ok (mfind a l 0) w)
 stay:∀ a,Instr.sameBits 10000 (enc a) (enc a)=true
theorem a7c {α:Type} [DecidableEq α] {a:α}:∀ {l:List (α×Value)} {i n:Nat} {v:Value},mfind a l i=some (n,v)→∃ k,n=i+k∧l[k]?=some (a,v)
  | [],i,n,v,h=>by cases h
  | p :: r, i, n, v, h => by
    unfold mfind at h
    split at h
    · rename_i e;injection h with h;injection h with h1 h2
      exact ⟨0,by omega,by rw [e,←h2];rfl⟩
    · obtain ⟨k,h1,h2⟩:=a7c h
      exact ⟨k+1,by omega,by simpa using h2⟩
section
variable {P:Program} {ov:Nat→Option HV} {g:Nat} {d:Option Tmp} {ty:TypeId} {pos:String} {af:Array Edge} {gd:Option (Nat×Bool)} {T yT:TypeId} {x y z:Operand}
theorem a7l {id:Nat}:HOp P ⟨d,.makeMap T none,ty,pos,af,gd⟩ ov g [] (.mp id g) [(id,b2F g [])]:=by
 refine ⟨?_⟩;intro K w0 F0 E hh a w Q N r ht hG hBd hpre hN
 have hnew:=r.newRaw id (b2F g []) (.map #[] 0) (b6D g #[] [] rfl (fun i e h=>by simp at h)) hG (by show 0 < 2;omega)
 refine a3u (v:=.map (some w.heap.size)) (w':=w.alloc (.map #[] 0)) ?_ (hN _ _ _ hnew.1 hnew.2 (fun g' hg'=>hg'.imp (fun h=>h) fun h=>⟨by simp,h⟩) ?_)
 ·simp only [execOp,Instr.makeMap,Option.map_none,Sem.run_bind,Sem.run_pure,Result.andThen_ok];rfl
 ·refine .mp w.heap.size id g (.inr rfl) (fun l hl _=>?_)
  rw [Env.new_L] at hl;injection hl with hl;subst hl
  rfl
section
variable {α:Type} [DecidableEq α] {enc:α→Value} {zero:Value}
def lkV (ok:Bool) (r:Option Value) (zero:Value):HV:=match ok with | true=>t2 (.imm (r.getD zero)) (.imm (.bool r.isSome)) | false=>.imm (r.getD zero)
def lkW (ok:Bool) (r:Option Value) (zero:Value):Value:=match ok with | true=>.tuple #[r.getD zero,.bool r.isSome] | false=>r.getD zero
theorem c3d {w:World} {E:Env} (ok:Bool) (r:Option Value) (zero:Value):Rep w E (lkW ok r zero) (lkV ok r zero):=by
 cases ok with
 | true=>exact .tup _ 2 _ (fun i=>match i with | 0=>r.getD zero | _=>.bool r.isSome) rfl (fun i hi=>by match i,hi with | 0,_=>rfl | 1,_=>rfl) (fun i hi=>by match i,hi with | 0,_=>exact .imm _ | 1,_=>exact .imm _)
 | false=>exact .imm _
theorem b4z (hK:KeyOk P T α enc zero) (w:World) (b:Nat) (es:Array MapEntry) (c:Nat) (hb:w.heap[b]?=some (.map es c)) (l:List (α×Value)) (he:es.toList.map (fun e=>(e.key,e.val))=encL enc l) (a:α) (ok:Bool) :
  (Instr.lookup T (.map (some b)) (enc a) ok).run P w=.ok (lkW ok (c0K l a) zero) w:=by
 obtain ⟨kt,et,h1,h2,h3,h4⟩:=hK.all
 unfold Instr.lookup
 have hg:(getObj b).run P w=.ok (.map es c) w:=by simp [getObj,Sem.run,hb]
 simp only [Sem.run_bind,run_underlying h1,Result.andThen_ok,hg,Sem.run_pure,h3,h4 a es.toList l he]
 unfold c0K lkW
 cases mfind a l 0 with
 | none=>simp only [Sem.run_bind,h2,Result.andThen_ok,Sem.run_pure,Option.map_none,Option.getD_none,Option.isSome_none];cases ok <;> rfl
 | some p=>obtain ⟨i,v⟩:=p;simp only [Sem.run_pure,Result.andThen_ok,Option.map_some,Option.getD_some,Option.isSome_some];cases ok <;> rfl
def b8T (hv:HV) (v:Value):Prop:=∀ (w:World) (E:Env) (u:Value),Rep w E u hv→u=v
theorem b8T.imm (v:Value):b8T (.imm v) v:=fun _ _ _ h=>h.imm_inv
theorem a0G (hK:KeyOk P T α enc zero) {id gg:Nat} {l:List (α×Value)} {a:α} {ok:Bool} {hk:HV} (h1:ovl ov x=some (.mp id gg)) (h2:ovl ov y=some hk) (h3:b8T hk (enc a)) :
    HOp P ⟨d,.lookup T x y ok,ty,pos,af,gd⟩ ov g [(id,b2F gg (encL enc l))] (lkV ok (c0K l a) zero) []:=by
  refine ⟨?_⟩;intro K w0 F0 E hh ac w Q N r ht hG hBd hpre hN
  have ho:=hpre _ (List.mem_cons_self ..)
  obtain ⟨lc,b,es,hl,hlg,hlA,hwb,he,hbn⟩:=r.mapAt ho
  have hX:=ht x _ (by simp [Op.operands]) h1
  have e2:=h3 _ _ _ (ht y _ (by simp [Op.operands]) h2)
  generalize hρ:ac.eval x=u at hX
  cases hX with
  | mp b' _ _ hgg hh' =>
    have h4:=hh' lc hl hlg
    rw [hlA] at h4;injection h4 with h4;subst h4
    refine a3u (v:=lkW ok (c0K l a) zero) ?_ (hN _ _ _ (Ext.refl _ _) r (fun g' hg'=>.inl hg') (c3d ok _ zero))
    simp only [execOp,hρ,e2,Sem.run_bind,b4z hK w b es es.size hwb l he a ok,Result.andThen_ok,Sem.run_pure]
theorem b6B {es:Array MapEntry} (h:∀ (i:Nat) (e:MapEntry),es[i]?=some e→e.born=i) (k v:Value):∀ (i:Nat) (e:MapEntry),(es.push ⟨k,v,es.size⟩)[i]?=some e→e.born=i:=fun i e he=>by
 rw [Array.getElem?_push] at he
 split at he
 ·rename_i e1;injection he with he;subst he;exact e1.symm
 ·exact h i e he
theorem b2i {es:Array MapEntry} (h:∀ (i:Nat) (e:MapEntry),es[i]?=some e→e.born=i) (k:Nat) (f:MapEntry→MapEntry) (hf:∀ e,(f e).born=e.born):∀ (i:Nat) (e:MapEntry),(es.modify k f)[i]?=some e→e.born=i:=fun i e he=>by
  rw [Array.getElem?_modify] at he
  split at he
  · cases hq : es[i]? with
    | none=>rw [hq] at he;cases he
    | some e0=>rw [hq] at he;injection he with he;subst he;rw [hf];exact h i e0 hq
  · exact h i e he
theorem a9r (hK:KeyOk P T α enc zero) (w:World) (b:Nat) (es:Array MapEntry) (hb:w.heap[b]?=some (.map es es.size)) (hbn:∀ (i:Nat) (e:MapEntry),es[i]?=some e→e.born=i) (l:List (α×Value)) (he:es.toList.map (fun e=>(e.key,e.val))=encL enc l) (a:α) (v:Value) :
    ∃ es',(Instr.mapUpdate T (.map (some b)) (enc a) v).run P w=.ok () { w with heap:=w.heap.setIfInBounds b (.map es' es'.size) }∧es'.toList.map (fun e=>(e.key,e.val))=encL enc (c2l l a v)∧∀ (i:Nat) (e:MapEntry),es'[i]?=some e→e.born=i:=by
  obtain ⟨kt,et,h1,h2,h3,h4⟩:=hK.all
  have hg:(getObj b).run P w=.ok (.map es es.size) w:=by simp [getObj,Sem.run,hb]
  have hs:∀ o,(setObj b o).run P w=.ok () { w with heap:=w.heap.setIfInBounds b o }:=fun o=>by simp [setObj,Sem.run,hb]
  unfold c2l
  cases hm:mfind a l 0 with
  | none =>
    refine ⟨es.push { key:=enc a,val:=v,born:=es.size },?_,?_,b6B hbn _ _⟩
    · unfold Instr.mapUpdate
      simp only [Sem.run_bind,run_underlying h1,Result.andThen_ok,hg,h3,h4 a es.toList l he,hm,hs,Array.size_push]
    · simp [he,encL]
  | some p =>
    obtain ⟨i,u⟩:=p
    obtain ⟨k,rfl,hk⟩:=a7c hm
    rw [Nat.zero_add] at *
    have hkey:∃ e,es[k]?=some e∧e.key=enc a:=by
      have:=congrArg (fun q=>q[k]?) he
      simp only [encL,List.getElem?_map,hk,Option.map_some] at this
      cases hq:es[k]? with
      | none=>rw [←Array.getElem?_toList] at hq;rw [hq] at this;cases this
      | some e=>rw [←Array.getElem?_toList] at hq;rw [hq] at this;injection this with this;injection this with t1 t2;exact ⟨e,rfl,t1⟩
    obtain ⟨e,hek,hea⟩:=hkey
    have hst:(Instr.keyThatStays (((es[k]?).map (·.key)).getD (enc a)) (enc a)).run P w=.ok (enc a) w:=by
      unfold Instr.keyThatStays
      rw [hek]
      simp [hea,hK.stay a]
    refine ⟨es.modify k fun e=>{ e with key:=enc a,val:=v },?_,?_,b2i hbn k _ (fun _=>rfl)⟩
    · unfold Instr.mapUpdate
      simp only [Sem.run_bind,run_underlying h1,Result.andThen_ok,hg,h3,h4 a es.toList l he,hm,hst,hs,Array.size_modify]
    · rw [Array.toList_modify]
      apply List.ext_getElem?
      intro j
      have hj:=congrArg (fun q=>q[j]?) he
      simp only [encL,List.getElem?_map] at hj
      simp only [encL,List.getElem?_map,List.getElem?_modify,List.getElem?_set]
      have hkl:k < l.length:=by
        rcases Nat.lt_or_ge k l.length with h | h
        · exact h
        · rw [List.getElem?_eq_none h] at hk;cases hk
      by_cases e:k=j
      · subst e
        rw [if_pos rfl,if_pos hkl]
        rw [←Array.getElem?_toList] at hek
        rw [hek];simp
      · rw [if_neg e,←hj]
        simp [e]
theorem a3e (hK:KeyOk P T α enc zero) {id gg:Nat} {l:List (α×Value)} {a:α} {v:Value} {hk:HV} (h1:ovl ov x=some (.mp id gg)) (h2:ovl ov y=some hk) (h3:b8T hk (enc a)) (h4:ovl ov z=some (.imm v)) :
    HOp P ⟨d,.mapUpdate T x y z,ty,pos,af,gd⟩ ov g [(id,b2F gg (encL enc l))] (.imm undef) [(id,b2F gg (encL enc (c2l l a v)))]:=by
  refine ⟨?_⟩;intro K w0 F0 E hh ac w Q N r ht hG hBd hpre hN
  have ho:=hpre _ (List.mem_cons_self ..)
  obtain ⟨lc,b,es,hl,hlg,hlA,hwb,he,hbn⟩:=r.mapAt ho
  have hX:=ht x _ (by simp [Op.operands]) h1
  have e2:=h3 _ _ _ (ht y _ (by simp [Op.operands]) h2)
  have e3:=Rep.imm_inv (ht z _ (by simp [Op.operands]) h4)
  generalize hρ:ac.eval x=u at hX
  cases hX with
  | mp b' _ _ hgg hh' =>
    have h4:=hh' lc hl hlg
    rw [hlA] at h4;injection h4 with h4;subst h4
    obtain ⟨es',hrun,he',hbn'⟩:=a9r hK w b es hwb hbn l he a v
    have a2G:=r.setMap ho hl hlA hwb he' hbn'
    refine b9n (w':={ w with heap:=w.heap.setIfInBounds b (.map es' es'.size) }) ?_ (hN _ _ _ a2G.1 a2G.2 (fun g' hg'=>.inl hg') (.imm _))
    simp only [execOp,hρ,e2,e3,Sem.run_bind,hrun,Result.andThen_ok,Sem.run_pure]
end
end
section
variable {P:Program} {α:Type} [DecidableEq α] {enc:α→Value}
end
theorem a4E {C:Ctx} {P:Program} {ops:Array Oper} {Q:Exit→Act→World→Prop} {s:HSt} {rest:List Oper} {d:Option Tmp} {op:Op} {ty:TypeId} {pos:String} {af:Array Edge} (gi j:Nat) (b:Bool)
  (hgi:(ops[gi]?).bind (·.dst)=some j) (hc:tget s.tm j=some (.v (.imm (.bool b)))) (h:HSeq C P ops (⟨d,op,ty,pos,af,none⟩::rest) s Q):HSeq C P ops (⟨d,op,ty,pos,af,some (gi,b)⟩::rest) s Q:=by
 intro a w hs
 have h0:=h a w hs
 obtain ⟨E,e0,r,hG,hsz,hdf,ht⟩:=hs
 have hj:a.tmps.getD j undef=.bool b:=Rep.imm_inv (ht j _ hc)
 unfold a6G at h0 ⊢
 rw [if_pos (by simp [Region.wanted])] at h0
 rw [if_pos ?_]
 ·exact h0
 ·unfold Region.wanted yielded
  simp only [hgi,Option.bind_some]
  by_cases hj2:j < a.tmps.size
  ·have e1:a.tmps[j]?=some a.tmps[j]:=Array.getElem?_eq_getElem hj2
   have e2:a.tmps.getD j undef=a.tmps[j]:=by simp [hj2]
   rw [e1,←e2,hj];simp
  ·have e1:a.tmps.getD j undef=undef:=by simp [hj2]
   rw [e1] at hj;cases hj
theorem b4R (a b:Bs):((⟨a.toArray⟩:ByteArray) == ⟨b.toArray⟩)=decide (a=b):=by
 show (a.toArray == b.toArray)=_
 rw [Bool.eq_iff_iff];simp
theorem c2S {P:Program} {T kt et:TypeId} {zero:Value} (h1:P.underlying T=some (.map kt et)) (h2:P.underlying kt=some .string) (h3:∀ w,(zeroValue et).run P w=.ok zero w):KeyOk P T Bs (fun x=>Value.string ⟨x.toArray⟩) zero where
  all:=⟨kt,et,h1,h3,fun b a w=>by
    unfold Instr.checkKey
    simp only [Sem.run_bind,run_underlying h2,Result.andThen_ok,Sem.run_pure],fun a es l he w=>by
    have key:∀ (es:List MapEntry) (l:List (Bs×Value)) (i:Nat),es.map (fun e=>(e.key,e.val))=encL (fun x=>Value.string ⟨x.toArray⟩) l→Instr.findNow .string (.string ⟨a.toArray⟩) es i=some (mfind a l i):=by
      intro es
      induction es with
      | nil => intro l i h; cases l with
        | nil=>rfl
        | cons p l=>simp [encL] at h
      | cons e es ih => intro l i h; cases l with
        | nil=>simp [encL] at h
        | cons p l =>
          simp only [encL,List.map_cons,List.cons.injEq,Prod.mk.injEq] at h
          obtain ⟨⟨h1,h2⟩,h3⟩:=h
          have ih:=ih l (i+1) h3
          unfold Instr.findNow mfind
          rw [h1]
          simp only [Instr.sameNow]
          by_cases e1:a=p.1
          · rw [b4R,if_pos e1,h2,decide_eq_true e1]
          · rw [b4R,if_neg e1,decide_eq_false e1];exact ih
    unfold Instr.findKey
    simp only [Sem.run_bind,run_underlying h2,Result.andThen_ok,key es l 0 he,Sem.run_pure]⟩
  stay a:=by
    show ((⟨a.toArray⟩:ByteArray) == ⟨a.toArray⟩)=true
    rw [b4R];simp
def alk {α:Type} [DecidableEq α] (b:α):List (α×Value)→Option Value
 | []=>none
 | p::r=>if b=p.1 then some p.2 else alk b r
def c0P {α:Type} [DecidableEq α] (a:α) (v:Value):List (α×Value)→List (α×Value)
 | []=>[(a,v)]
 | p::r=>if a=p.1 then (a,v)::r else p::c0P a v r
theorem b0v {α:Type} [DecidableEq α] (b:α):∀ (l:List (α×Value)) (i:Nat),(mfind b l i).map (·.2)=alk b l
  | [],i=>rfl
  | p :: r, i => by
    unfold mfind alk
    split
    · rfl
    · exact b0v b r (i+1)
theorem c2M {α:Type} [DecidableEq α] (a:α) (v:Value) (l:List (α×Value)):c2l l a v=c0P a v l:=by
  have key:∀ (l:List (α×Value)) (k:Nat),(match mfind a l k with | some (i,_)=>l.set (i - k) (a,v) | none=>l++[(a,v)])=c0P a v l:=by
    intro l
    induction l with
    | nil=>intro k;rfl
    | cons p r ih =>
      intro k
      have ih:=ih (k+1)
      unfold mfind c0P
      by_cases h:a=p.1
      · rw [if_pos h,if_pos h];simp
      · rw [if_neg h,if_neg h]
        rw [←ih]
        cases hm:mfind a r (k+1) with
        | none=>rfl
        | some q =>
          obtain ⟨i,x⟩:=q
          obtain ⟨j,hj,_⟩:=a7c hm
          subst hj
          simp only
          rw [show k+1+j - k=j+1 by omega,show k+1+j - (k+1)=j by omega];rfl
  have:=key l 0
  rw [←this];rfl
theorem b6i {α:Type} [DecidableEq α] (a b:α) (v:Value):∀ l:List (α×Value),alk b (c0P a v l)=if b=a then some v else alk b l
  | []=>rfl
  | p :: r => by
    unfold c0P
    by_cases h:a=p.1
    · rw [if_pos h]
      show (if b=a then some v else alk b r)=if b=a then some v else (if b=p.1 then some p.2 else alk b r)
      by_cases h2:b=a
      · rw [if_pos h2,if_pos h2]
      · rw [if_neg h2,if_neg h2,if_neg (fun e=>h2 (e.trans h.symm))]
    · rw [if_neg h]
      show (if b=p.1 then some p.2 else alk b (c0P a v r))=if b=a then some v else (if b=p.1 then some p.2 else alk b r)
      rw [b6i a b v r]
      by_cases h2:b=p.1
      · rw [if_pos h2,if_pos h2,if_neg (fun e=>h (e.symm.trans h2))]
      · rw [if_neg h2,if_neg h2]
def a4R:List Bs→List (Bs×Value)
 | []=>[]
 | w::met=>c2l (a4R met) w (.int .i64 ((met.count w:Int)+1))
theorem b3s (w:Bs):∀ met,c0K (a4R met) w=if w∈met then some (.int .i64 (met.count w:Int)) else none
  | []=>rfl
  | x :: met => by
    have ih:=b3s w met
    unfold c0K at ih ⊢
    rw [b0v] at ih ⊢
    unfold a4R
    rw [c2M,b6i,ih]
    by_cases h:w=x
    · subst h;simp
    · rw [if_neg h]
      have:(x::met).count w=met.count w:=by rw [List.count_cons];simp [Ne.symm h]
      rw [this];simp [h]
theorem a1P (w:Bs) (met:List Bs):lkV false (c0K (a4R met) w) (.int .i64 0)=a0g (met.count w:Int):=by
 rw [b3s]
 by_cases h:w∈met
 ·rw [if_pos h];rfl
 ·rw [if_neg h,List.count_eq_zero_of_not_mem h];rfl
def c0J:List (Bs×Bool×Nat):=[(a1S,true,85),(c1L,false,86),(b3X,false,87),(b4b,true,88),(a7N,true,89)]
@[reducible] def c2X (o:Bs×Bool×Nat):Nat→HV:=fun j=>match j with
 | 0=>a0r o.1
 | 1=>a0x o.2.1
 | _=>.fn (.func o.2.2) 0 (fun _=>default)
@[reducible] def c3s:HV:=.sl 3 5 (fun i=>c2X (c0J.getD i default))
theorem b9F {sh:List (Nat×HObj)} (o:Bs×Bool×Nat) (j:Nat):Fz sh (c2X o j) (c2X o j):=by
 match j with
 | 0=>exact .imm _
 | 1=>exact .imm _
 | _+2=>exact .fn _ _ _ _ fun i hi=>absurd hi (Nat.not_lt_zero _)
theorem a3P:a0t Tryz.prog 59 [] c3s:=by
 refine a0n Tryz.func59 rfl kr _ _ _ rfl 7 rfl rfl (fun w F=>?_)
 refine ru 12 ?_
 refine a0p 6 (a0b (id:=6) (hs:=[_,_,_,_,_]) ei_112.h omx rfl omx ⟨rfl,rfl,rfl,rfl,⟨rfl,rfl,rfl,rfl,⟨rfl,rfl,rfl,rfl,⟨rfl,rfl,rfl,rfl,⟨rfl,rfl,rfl,rfl,trivial⟩⟩⟩⟩⟩) rfl rfl a0e rfl rfl (c':=1) rfl ?_
 refine ru 4 ?_
 refine a7G rfl (a0k rfl) [(6,_)] rfl (a0h rfl a0e) ?_
 exact .os 6 _ 0 5 _ _ (List.mem_cons_self ..) rfl (Nat.le_refl _) (fun i j hi hj=>by have hj:j < 3:=hj;rcases (show i=0∨i=1∨i=2∨i=3∨i=4 by omega) with rfl | rfl | rfl | rfl | rfl <;> rcases (show j=0∨j=1∨j=2 by omega) with rfl | rfl | rfl <;> first | exact .imm _ | exact .fn _ _ _ _ (fun i hi=>absurd hi (Nat.not_lt_zero _)))
theorem c2N (o:Bs×Bool×Nat) (word:Bs) (has:Bool):a0t Tryz.prog 60 ([.agg 3 (c2X o)]++[.fp 1 (fun _=>a0r word),.fp 1 (fun _=>a0x has)]) (a0x (decide (o.1=word)&&(o.2.1 == has))):=by
 show a0t _ _ [.agg 3 (c2X o),.fp 1 (fun _=>a0r word),.fp 1 (fun _=>a0x has)] _
 refine a0n Tryz.func60 rfl kr _ _ _ rfl 15 rfl rfl (fun w F=>?_)
 refine ru 22 ?_
 refine rt1 ?_
 exact Frz.fz
theorem c1d (word:Bs) (has:Bool):b8M (fun o:Bs×Bool×Nat=>decide (o.1=word)&&(o.2.1 == has)) c0J=a2y word has:=by
 have yes:∀ {s:Bs} {b:Bool},s=word∧b=has→(decide (s=word)&&(b == has))=true:=fun h=>by rw [decide_eq_true h.1,h.2];simp
 have no:∀ {s:Bs} {b:Bool},¬ (s=word∧b=has)→(decide (s=word)&&(b == has))=false:=fun h=>by rw [←Bool.not_eq_true];simpa using h
 have hl:c0J.length=5:=rfl
 unfold a2y
 by_cases h0:a1S=word∧true=has
 ·rw [if_pos h0];exact a3I (d:=default) (i:=0) (by rw [hl];omega) (yes h0) (fun j hj=>absurd hj (Nat.not_lt_zero _))
 rw [if_neg h0]
 by_cases h1:c1L=word∧false=has
 ·rw [if_pos h1];exact a3I (d:=default) (i:=1) (by rw [hl];omega) (yes h1) (fun j hj=>by have e:j=0:=(by omega);subst e;exact no h0)
 rw [if_neg h1]
 by_cases h2:b3X=word∧false=has
 ·rw [if_pos h2];exact a3I (d:=default) (i:=2) (by rw [hl];omega) (yes h2) (fun j hj=>by rcases (show j=0∨j=1 by omega) with rfl | rfl;exact no h0;exact no h1)
 rw [if_neg h2]
 by_cases h3:b4b=word∧true=has
 ·rw [if_pos h3];exact a3I (d:=default) (i:=3) (by rw [hl];omega) (yes h3) (fun j hj=>by rcases (show j=0∨j=1∨j=2 by omega) with rfl | rfl | rfl;exact no h0;exact no h1;exact no h2)
 rw [if_neg h3]
 by_cases h4:a7N=word∧true=has
 ·rw [if_pos h4];exact a3I (d:=default) (i:=4) (by rw [hl];omega) (yes h4) (fun j hj=>by rcases (show j=0∨j=1∨j=2∨j=3 by omega) with rfl | rfl | rfl | rfl;exact no h0;exact no h1;exact no h2;exact no h3)
 rw [if_neg h4]
 exact a5T (d:=default) (fun j hj=>by rw [hl] at hj;rcases (show j=0∨j=1∨j=2∨j=3∨j=4 by omega) with rfl | rfl | rfl | rfl | rfl;exact no h0;exact no h1;exact no h2;exact no h3;exact no h4)
theorem c0U (word:Bs) (has:Bool):a0t Tryz.prog 58 [c3s,.fn (.func 60) 2 (fun i=>[HV.fp 1 (fun _=>a0r word),HV.fp 1 (fun _=>a0x has)].getD i default)] (a0g (a2y word has)):=by
 rw [←c1d]
 have hlen:c0J.length=5:=rfl
 refine a0n Tryz.func58 rfl kr _ _ _ rfl 19 rfl rfl (fun w F=>?_)
 refine ru 14 ?_
 refine a0o (α:=Nat) (fun x c=>⟨19,[(0,.v c3s),(1,.v (.fn (.func 60) 2 (fun x=>[HV.fp 1 (fun _=>a0r word),HV.fp 1 (fun _=>a0x has)].getD x default))),(7,.v (a0g 5)),(8,.v (a0g (x:Int)))],[],c⟩) (fun x=>x≤5∧∀ j,j < x→(decide ((c0J.getD j default).1=word)&&((c0J.getD j default).2.1 == has))=false) (fun x=>5 - x) (0) (by exact ⟨Nat.zero_le _,fun j hj=>absurd hj (Nat.not_lt_zero _)⟩) (a0c rfl (Nat.le_refl _) tsa a0j.nil) (fun i c hx NhL1 hL1=>?_)
 (try dsimp only at hx hL1 ⊢)
 obtain ⟨hil,hno⟩:=hx
 refine ru 6 ?_
 refine wdc (fun hr0 hc0=>?_) (fun hr0 hc0=>?_)
 ·refine ru 17 ?_
  refine s0 (b4I (xs:=[_]) (cs:=[HV.fp 1 (fun _=>a0r word),HV.fp 1 (fun _=>a0x has)]) (c2N (c0J.getD i default) word has) rfl rfl (fun i hi=>by match i,hi with | 0,_=>rfl | 1,_=>rfl) ⟨rfl,trivial⟩ ⟨.agg _ _ _ (fun j _=>b9F _ j),(.fp _ _ (Nat.le_refl _) _ _ fun _ _=>.imm _),(.fp _ _ (Nat.le_refl _) _ _ fun _ _=>.imm _),trivial⟩) ?_
  refine ru 2 ?_
  refine wdc (fun hr1 hc1=>?_) (fun hr1 hc1=>?_)
  ·refine ru 9 ?_
   refine a0f ?_
   refine ru 2 ?_
   refine rt1 ?_
   exact Fz.eq (by rw [a3I (d:=default) (by rw [hlen];omega) hr1 hno])
  refine ru 7 ?_
  exact hL1 (i+1) _ _ (by (try dsimp only);exact ⟨by omega,fun j hj=>by rcases Nat.lt_or_ge j i with h | h;exact hno j h;obtain rfl:j=i:=om;exact hr1⟩) (by (try dsimp only);omega) (a0c rfl (Nat.le_refl _) (tsr rfl (tsr rfl (tsr rfl (a0E.cons rfl (a0S om) a0E.nil)))) a0j.nil)
 refine ru 2 ?_
 refine a0d ?_
 refine ru 8 ?_
 refine rt1 ?_
 exact Fz.eq (by rw [a5T (d:=default) (fun j hj=>hno j (by rw [hlen] at hj;omega))])
set_option maxHeartbeats 2000000
@[reducible] def a6F (n:Nd):Nat→HV:=fun j=>match j with
 | 0=>a0r n.name
 | 1=>a1a n.groups
 | 2=>a0x n.inl
 | 3=>a0x n.pick
 | 4=>a0x n.leaf
 | 5=>a0g n.attr
 | 6=>a0x n.all
 | 7=>a1a n.marks
 | _=>a0r n.expr
@[reducible] def c3P (n:Nd):HV:=.agg 9 (a6F n)
@[reducible] def c4h (x:Nd×Bool):HV:=t2 (c3P x.1) (a0x x.2)
theorem a5W:KeyOk Tryz.prog 107 Bs (fun x=>Value.string ⟨x.toArray⟩) (.int .i64 0):=c2S (et:=3) (by kernel_rfl) Tryz.underlying9 (fun w=>by kernel_rfl)
theorem b6l (s:Bs):a0t Tryz.prog 56 [a5f (a3K s).1] (a0r (a5Y s)):=by
 unfold a5Y
 by_cases h:∃ t:T,t.ok=true∧t.size≤250∧a3K s=(T.flat 0 t,0,0)
 ·rw [dif_pos h]
  obtain ⟨h1,h2,h3⟩:=Classical.choose_spec h
  have:=b4j (Classical.choose h) h1 h2
  exact (congrArg (fun q:List Pt=>a0t Tryz.prog 56 [a5f q] (a0r (a6j (Classical.choose h).sig))) (congrArg Prod.fst h3)).mpr this
 ·rw [dif_neg h]
  rcases a8q s with h2 | h2
  ·rw [h2];exact b6O
  ·exact absurd h2 h
@[reducible] def ndZ (s:Bs) (g:Nat):Nat→HV:=fun j=>match j with
 | 0=>a0r s
 | 1=>.os 8001 g 0 0
 | 2=>a0x false
 | 3=>a0x false
 | 4=>a0x true
 | 5=>a0g 0
 | 6=>a0x false
 | 7=>.imm (.slice none 0 0)
 | _=>a0r []
@[reducible] def zNd:Nat→HV:=fun j=>match j with
 | 0=>a0r []
 | 1=>.imm (.slice none 0 0)
 | 2=>a0x false
 | 3=>a0x false
 | 4=>a0x false
 | 5=>a0g 0
 | 6=>a0x false
 | 7=>.imm (.slice none 0 0)
 | _=>a0r []
theorem a7Z {g ty fl:Nat} {f f':Nat→Nat→HV} (h:∀ j,j < 9→Sb (f 0 j) (f' 0 j)) (hfn:fl≤1:=by exact Nat.zero_le _):a5V ⟨g,1,9,ty,fl,f⟩ ⟨g,1,9,ty,fl,f'⟩:=.of (hfn:=hfn) fun i j hi hj=>by
 obtain rfl:i=0:=by omega
 exact h j hj
@[reducible] def c2V (l:List Bs):HV:=.sl 1 (l.length - 2) (fun i _=>a0r (l.getD (2+i) []))
theorem c2w (l:List Bs) (hl:2≤l.length∧l.length≤100000) (hw:∀ w∈l,w.length≤100000) (hj:(a0U l).length≤1000000):a0t Tryz.prog 38 [a1a l] (c4h (a2Y l)):=by
 refine a0n Tryz.func38 rfl kr _ _ _ rfl 85 rfl rfl (fun w F=>?_)
 refine ru 11 ?_
 refine rvl (a0r (l.getD 1 [])) (rfl) ?_
 refine ru 7 ?_
 refine a0p 19 (a7l (id:=19)) rfl rfl a0e rfl rfl (c':=4) rfl ?_
 refine ru 13 ?_
 refine (a1l 4 1 8001 1 9 (b7f []) (fun _=>ndZ (l.getD 1 []) 4) rfl rfl (by exact q9 (.inr rfl) (.inl ⟨rfl,rfl⟩) (.inr rfl) (.inr rfl) (.inr rfl) (.inr rfl) (.inr rfl) (.inr rfl) (.inr rfl)) (by decide) (by decide) (c':=5) rfl).wp ?_
 refine a0o (α:=Nat×Nd×List Bs×Nat×Nat) (fun x c=>⟨85,[(0,.v (a1a l)),(2,.v (.pt 2 0 0 0)),(4,.v (.pt 4 1 0 0)),(5,.v (.mp 19 x.2.2.2.2)),(21,.v (c2V l)),(22,.v (a0g ((l.length - 2:Nat):Int))),(23,.v (a0g (x.1:Int)))],[(2,⟨0,1,9,46,0,fun _=>zNd⟩),(4,ndO 1 x.2.1 x.2.2.2.1 x.2.1.groups.length),(8001,a5y x.2.2.2.1 x.2.1.groups),(19,b2F x.2.2.2.2 (encL (fun x=>Value.string ⟨x.toArray⟩) (a4R x.2.2.1)))],c⟩) (fun x=>x.1≤l.length - 2∧x.2.1.groups.length≤4∧x.2.2.1.length=x.1∧a8a (l.drop (2+x.1)) x.2.2.1.reverse x.2.1=a2Y l) (fun x=>l.length - x.1) ((0,⟨l.getD 1 [],[],false,false,true,0,false,[],[]⟩,[],4,3)) (by exact ⟨Nat.zero_le _,Nat.zero_le _,rfl,rfl⟩) (a0c rfl (Nat.le_refl _) (tsr rfl (tsr rfl (tsr rfl (tsr rfl (a0E.cons rfl (by rw [show ((l.length:Int) - 2).toNat=l.length - 2 by omega];exact .refl _) (a0E.cons rfl (a0S om) tsa)))))) (a0j.cons rfl (a7Z (by exact q9 (.refl _) (.refl _) (.refl _) (.refl _) (.refl _) (.refl _) (.refl _) (.refl _) (.refl _))) (a0j.cons rfl (a7Z (by exact q9 (.refl _) (.refl _) (.refl _) (.refl _) (.refl _) (.refl _) (.refl _) (.nil _ _ _ (by decide) _) (.refl _))) hsa))) (fun x c hx NhL1 hL1=>?_)
 revert hx hL1;obtain ⟨i,n,met,g,gm⟩:=x;intro hx hL1;dsimp only at hx hL1 ⊢
 obtain ⟨ha1,ha2,ha4,ha3⟩:=hx
 refine ru 6 ?_
 refine wdc (fun hr0 hc0=>?_) (fun hr0 hc0=>?_)
 ·skip
  have hil:2+i < l.length:=om;obtain ⟨v_,hv_⟩:∃ v_,l.getD (2+i) []=v_:=⟨_,rfl⟩;have hd_:l.drop (2+i)=v_::l.drop (2+i+1):=(by rw [List.drop_eq_getElem_cons hil,←hv_,List.getD_eq_getElem?_getD,List.getElem?_eq_getElem hil];rfl);have hvl:v_.length≤1000000:=(by have:=hw v_ (by rw [←hv_];exact a1X hil);omega);rw [hd_] at ha3
  refine ru 9 ?_
  refine rvl (a0r v_) ((by rw [←hv_];show a0r (l.getD (2+((i:Nat):Int).toNat) [])=_;rw [show ((i:Nat):Int).toNat=i by omega])) ?_
  refine ru 11 ?_
  refine wdc (fun hr1 hc1=>?_) (fun hr1 hc1=>?_)
  ·skip
   have hv58:v_=[58]:=(by simpa using hr1);have hjl:=a6e l (2+i+1);subst hv58;rw [a4r] at ha3
   refine ru 6 ?_
   refine s0 (a0l (xs:=[_]) (c0g (l.drop (2+i+1)) (by rw [List.length_drop];omega) om) ⟨rfl,trivial⟩ ⟨(b1Z (l.drop (2+i+1)) (by rw [List.length_drop];omega) (fun k hk=>by show a0r (l.getD ((((i:Nat):Int)+3).toNat+k) [])=_;rw [show (((i:Nat):Int)+3).toNat+k=2+i+1+k by omega,List.getD_eq_getElem?_getD,List.getD_eq_getElem?_getD,List.getElem?_drop])),trivial⟩) ?_
   refine a0m 36 (xs:=[_]) (pre:=[]) (b5A _ (a0U (l.drop (2+i+1))) om) ⟨rfl,trivial⟩ a0e rfl rfl (fun r c1 hr=>?_)
   (try dsimp only)
   refine ru 12 ?_
   refine s0 (a0l (xs:=[_]) (b6l (a0U (l.drop (2+i+1)))) ⟨rfl,trivial⟩ ⟨(show Fz _ (a5f r.1) (a5f (a3K (a0U (l.drop (2+i+1)))).1) from by rw [a9e hr];exact Frz.fz),trivial⟩) ?_
   refine ru 19 ?_
   refine a0f ?_
   refine ru 2 ?_
   refine a4B rfl (a0N rfl rfl ty_46.h rqc rfl rfl) (a0k rfl) [(8001,_)] rfl (a0h rfl a0e) ?_
   rw [←ha3,a9e hr];exact a1r (.agg _ _ _ (by exact q9 (.imm _) (a1z (l:=n.groups) (enc:=fun x _=>a0r x) (d:=[]) (List.mem_cons_self ..) rfl rfl (Nat.le_refl _) (fun i j hi hj=>.imm _)) (.imm _) (.imm _) (.imm _) (.imm _) (.imm _) (show Fz _ (a1a n.marks) (a1a n.marks) from .sl _ _ _ _ fun _ _ _ _=>.imm _) (.imm _))) (a1m (by simp [a7H]))
  have hv58:v_≠[58]:=(by simpa using hr1);obtain ⟨⟨W_,V_,H_⟩,hC_⟩:∃ q,a3R 61 v_=q:=⟨_,rfl⟩;have hcut:a0t Tryz.prog 57 [a0r v_,a0r [61]] (c1E (W_,V_,H_)):=(by rw [←hC_];exact c2P v_ 61 hvl);have hmc:met.count W_≤met.length:=List.count_le_length;have hVl:V_.length≤1000000:=(by have:=a4h 61 v_;rw [hC_] at this;have h9:V_.length≤v_.length:=this;omega)
  refine ru 5 ?_
  refine cll (hcut) ?_
  refine ru 13 ?_
  refine cll (a3P) ?_
  refine ru 1 ?_
  refine hm_ 55 (b3p (xs:=[_,_]) [(11,_),(13,_)] (c0U W_ H_) ⟨rfl,⟨rfl,trivial⟩⟩ ⟨(.sl _ _ _ _ fun i j _ _=>b9F _ _),⟨(.fn _ _ _ _ (fun i hi=>by match i,hi with | 0,_=>exact .pt 11 _ 0 0 1 _ (fun _=>a0r W_) (List.mem_cons_self ..) rfl (Nat.lt_succ_self 0) (Nat.le_refl 1) (fun j hj=>.imm _) | 1,_=>exact .pt 13 _ 0 0 1 _ (fun _=>a0x H_) (List.mem_cons_of_mem _ (List.mem_cons_self ..)) rfl (Nat.lt_succ_self 0) (Nat.le_refl 1) (fun j hj=>.imm _))),trivial⟩⟩ rfl) rfl rfl (a0h rfl (a0h rfl a0e)) rfl rfl (c':=c+5) rfl ?_
  refine ru 7 ?_
  refine st1 (HOp.val (v':=a0g (met.count W_:Int)) (a0G a5W (l:=a4R met) (a:=W_) rfl rfl (fun _ _ _ h=>h.imm_inv)) (a1P _ _)) rfl rfl rfl ?_
  first
  | refine hq_ 59 (b2L rfl rfl rfl (by first | exact Nat.le_of_ble_eq_true rfl | omega | (dsimp only;omega) | (simp <;> omega)) (by first | exact Nat.le_of_ble_eq_true rfl | omega | (dsimp only;omega) | (simp <;> omega))) rfl rfl a0e rfl rfl ?_
  | refine hq_ 59 (b1S rfl rfl) rfl rfl a0e rfl rfl ?_
  refine b4a (a3e a5W (l:=a4R met) (a:=W_) (v:=.int .i64 ((met.count W_:Int)+1)) rfl rfl (fun _ _ _ h=>h.imm_inv) rfl) rfl rfl (a0B rfl) (c':=c+6) rfl ?_
  refine ru 3 ?_
  rcases b6H W_ H_ met with h0 | h0 | h0 | h0 | h0 | h0 | h0
  ·refine ru 6 ?_
   first
   | refine a4c 65 2 62 false _ (fun hb=>HOp.val (v':=a0g ((W_::met).count W_:Int)) (a0G a5W (l:=a4R (W_::met)) (a:=W_) rfl rfl (fun _ _ _ h=>h.imm_inv)) (a1P _ _)) rfl rfl rfl rfl (a0B rfl) rfl rfl rfl ?_
   | refine a3z 65 2 62 _ _ false _ (fun hb=>HOp.val (v':=a0g ((W_::met).count W_:Int)) (a0G a5W (l:=a4R (W_::met)) (a:=W_) rfl rfl (fun _ _ _ h=>h.imm_inv)) (a1P _ _)) rfl rfl rfl rfl (a0B rfl) rfl rfl rfl ?_
   refine ru 7 ?_
   refine rvl (a0x true) ((congrArg a0x (by rw [a4w];simp [h0]))) ?_
   refine a4c 73 12 72 false true (v:=.imm undef) (fun h=>absurd h (by decide)) rfl rfl rfl rfl a0e rfl rfl rfl ?_
   refine a4c 74 12 72 false true (v:=.imm undef) (fun h=>absurd h (by decide)) rfl rfl rfl rfl a0e rfl rfl rfl ?_
   refine a4c 75 12 72 false true (v:=.imm undef) (fun h=>absurd h (by decide)) rfl rfl rfl rfl a0e rfl rfl rfl ?_
   refine a4c 76 12 72 false true (v:=.imm undef) (fun h=>absurd h (by decide)) rfl rfl rfl rfl a0e rfl rfl rfl ?_
   refine a4c 77 12 72 false true (v:=.imm undef) (fun h=>absurd h (by decide)) rfl rfl rfl rfl a0e rfl rfl rfl ?_
   refine a4c 78 12 72 false true (v:=.imm undef) (fun h=>absurd h (by decide)) rfl rfl rfl rfl a0e rfl rfl rfl ?_
   refine a4c 79 12 72 false true (v:=.imm undef) (fun h=>absurd h (by decide)) rfl rfl rfl rfl a0e rfl rfl rfl ?_
   refine a4c 80 12 72 false true (v:=.imm undef) (fun h=>absurd h (by decide)) rfl rfl rfl rfl a0e rfl rfl rfl ?_
   refine s0 (a8O rfl rfl) ?_
   refine ru 2 ?_
   refine wdc (fun hr2 hc2=>?_) (fun hr2 hc2=>?_)
   ·skip
    have hbad:=a1J (r:=l.drop (2+i+1)) (met:=met.reverse) (n:=n) hv58 hC_ (.inl h0)
    refine ru 10 ?_
    refine a0f ?_
    refine ru 2 ?_
    refine rt2 ?_
    rw [←ha3,hbad];exact a1r (.agg _ _ _ (by exact q9 (.imm _) (.nil _ _ _ (by decide) _) (.imm _) (.imm _) (.imm _) (.imm _) (.imm _) (.nil _ _ _ (by decide) _) (.imm _))) (.imm _)
   exfalso;simp at hr2
  ·refine ru 6 ?_
   first
   | refine a4c 65 2 62 false _ (fun hb=>HOp.val (v':=a0g ((W_::met).count W_:Int)) (a0G a5W (l:=a4R (W_::met)) (a:=W_) rfl rfl (fun _ _ _ h=>h.imm_inv)) (a1P _ _)) rfl rfl rfl rfl (a0B rfl) rfl rfl rfl ?_
   | refine a3z 65 2 62 _ _ false _ (fun hb=>HOp.val (v':=a0g ((W_::met).count W_:Int)) (a0G a5W (l:=a4R (W_::met)) (a:=W_) rfl rfl (fun _ _ _ h=>h.imm_inv)) (a1P _ _)) rfl rfl rfl rfl (a0B rfl) rfl rfl rfl ?_
   refine ru 7 ?_
   refine rvl (a0x true) ((congrArg a0x (by rw [a4w];simp [h0.2.1,h0.2.2]))) ?_
   refine a4c 73 12 72 false true (v:=.imm undef) (fun h=>absurd h (by decide)) rfl rfl rfl rfl a0e rfl rfl rfl ?_
   refine a4c 74 12 72 false true (v:=.imm undef) (fun h=>absurd h (by decide)) rfl rfl rfl rfl a0e rfl rfl rfl ?_
   refine a4c 75 12 72 false true (v:=.imm undef) (fun h=>absurd h (by decide)) rfl rfl rfl rfl a0e rfl rfl rfl ?_
   refine a4c 76 12 72 false true (v:=.imm undef) (fun h=>absurd h (by decide)) rfl rfl rfl rfl a0e rfl rfl rfl ?_
   refine a4c 77 12 72 false true (v:=.imm undef) (fun h=>absurd h (by decide)) rfl rfl rfl rfl a0e rfl rfl rfl ?_
   refine a4c 78 12 72 false true (v:=.imm undef) (fun h=>absurd h (by decide)) rfl rfl rfl rfl a0e rfl rfl rfl ?_
   refine a4c 79 12 72 false true (v:=.imm undef) (fun h=>absurd h (by decide)) rfl rfl rfl rfl a0e rfl rfl rfl ?_
   refine a4c 80 12 72 false true (v:=.imm undef) (fun h=>absurd h (by decide)) rfl rfl rfl rfl a0e rfl rfl rfl ?_
   refine s0 (a8O rfl rfl) ?_
   refine ru 2 ?_
   refine wdc (fun hr2 hc2=>?_) (fun hr2 hc2=>?_)
   ·skip
    have hbad:=a1J (r:=l.drop (2+i+1)) (met:=met.reverse) (n:=n) hv58 hC_ (.inr (.inl ⟨List.mem_reverse.2 h0.2.1,h0.2.2⟩))
    refine ru 10 ?_
    refine a0f ?_
    refine ru 2 ?_
    refine rt2 ?_
    rw [←ha3,hbad];exact a1r (.agg _ _ _ (by exact q9 (.imm _) (.nil _ _ _ (by decide) _) (.imm _) (.imm _) (.imm _) (.imm _) (.imm _) (.nil _ _ _ (by decide) _) (.imm _))) (.imm _)
   exfalso;simp at hr2
  ·refine ru 6 ?_
   first
   | refine a4c 65 2 62 false _ (fun hb=>HOp.val (v':=a0g ((W_::met).count W_:Int)) (a0G a5W (l:=a4R (W_::met)) (a:=W_) rfl rfl (fun _ _ _ h=>h.imm_inv)) (a1P _ _)) rfl rfl rfl rfl (a0B rfl) rfl rfl rfl ?_
   | refine a3z 65 2 62 _ _ false _ (fun hb=>HOp.val (v':=a0g ((W_::met).count W_:Int)) (a0G a5W (l:=a4R (W_::met)) (a:=W_) rfl rfl (fun _ _ _ h=>h.imm_inv)) (a1P _ _)) rfl rfl rfl rfl (a0B rfl) rfl rfl rfl ?_
   refine ru 7 ?_
   refine rvl (a0x false) ((congrArg a0x (by rw [a4w];have h9:=h0.1;have h8:=h0.2;simp at h9;rw [h8];simpa using h9))) ?_
   refine a3d 73 72 false (a0l (xs:=[]) (a3P) trivial trivial) rfl rfl rfl rfl a0e rfl rfl ?_
   refine a3d 74 72 false (HOp.val (v':=a0g 0) (a1O rfl) ((congrArg a0g h0.2))) rfl rfl rfl rfl a0e rfl rfl ?_
   first
   | refine a3d 75 72 false (a3X el_112.h rfl rfl (by first | exact Nat.le_of_ble_eq_true rfl | (simp at hb;first | omega | (dsimp only;omega) | (simp <;> omega)) | omega | (dsimp only;omega)) (by first | exact Nat.le_of_ble_eq_true rfl | (simp at hb;first | omega | (dsimp only;omega) | (simp <;> omega)) | omega | (dsimp only;omega)) (by first | exact Nat.le_of_ble_eq_true rfl | (simp at hb;first | omega | (dsimp only;omega) | (simp <;> omega)) | omega | (dsimp only;omega))) rfl rfl rfl rfl a0e rfl rfl ?_
   | refine a3d 75 72 false (a2T el_112.h rfl rfl (by first | exact Nat.le_of_ble_eq_true rfl | (simp at hb;first | omega | (dsimp only;omega) | (simp <;> omega)) | omega | (dsimp only;omega)) (by first | exact Nat.le_of_ble_eq_true rfl | (simp at hb;first | omega | (dsimp only;omega) | (simp <;> omega)) | omega | (dsimp only;omega))) rfl rfl rfl rfl (a0B rfl) rfl rfl ?_
   first
   | refine a3d 76 72 false (a4v fd_115_2.h rfl) rfl rfl rfl rfl a0e rfl rfl ?_
   | refine a3d 76 72 false (a1U fd_115_2.h rfl (by first | exact Nat.le_of_ble_eq_true rfl | (simp at hb;first | omega | (dsimp only;omega) | (simp <;> omega)) | omega | (dsimp only;omega))) rfl rfl rfl rfl a0e rfl rfl ?_
   first
   | refine a3d 77 72 false (HOp.val (v':=.fn (.func 85) 0 (fun _=>default)) (a0H ty_113.h rfl (by first | exact Nat.le_of_ble_eq_true rfl | (simp at hb;first | omega | (dsimp only;omega) | (simp <;> omega)) | omega | (dsimp only;omega)) (by first | exact Nat.le_of_ble_eq_true rfl | (simp at hb;first | omega | (dsimp only;omega) | (simp <;> omega)) | omega | (dsimp only;omega)) (fun h=>(by first | rfl | cases h))) (rfl)) rfl rfl rfl rfl (a0B rfl) rfl rfl ?_
   | refine a3d 77 72 false (HOp.val (v':=.fn (.func 85) 0 (fun _=>default)) (a0q ty_113.h rfl (by first | exact Nat.le_of_ble_eq_true rfl | (simp at hb;first | omega | (dsimp only;omega) | (simp <;> omega)) | omega | (dsimp only;omega)) (fun h=>(by first | rfl | cases h))) (rfl)) rfl rfl rfl rfl a0e rfl rfl ?_
   refine a3d 78 72 false (a1O rfl) rfl rfl rfl rfl a0e rfl rfl ?_
   refine a4E 12 72 false rfl rfl ?_
   refine a3o 79 (xs:=[_,_]) (cs:=[]) (pre:=[(4,_),(8001,_)]) (c0c _ 1 g n V_ hVl ha2) rfl rfl (fun i hi=>by first | rfl | (rcases i with i <;> first | rfl | (exact absurd hi om) | (simp at hi))) ⟨rfl,⟨rfl,trivial⟩⟩ (a0h rfl (a0h rfl a0e)) rfl rfl (fun q c2 hx2=>?_)
   (try dsimp only)
   refine a3d 80 72 false (a6b rfl) rfl rfl rfl rfl a0e rfl rfl ?_
   refine s0 (a3Q rfl rfl) ?_
   refine ru 2 ?_
   refine wdc (fun hr2 hc2=>?_) (fun hr2 hc2=>?_)
   ·skip
    have hR:a1y (a2y W_ H_) n V_=((a1y 0 n V_).1,(a1y 0 n V_).2):=(by rw [h0.2];first | done | rfl);have hbad:=a1J (r:=l.drop (2+i+1)) (met:=met.reverse) (n:=n) hv58 hC_ (.inr (.inr (by rw [hR];simpa using hr2)))
    refine ru 10 ?_
    refine a0f ?_
    refine ru 2 ?_
    refine rt2 ?_
    rw [←ha3,hbad];exact a1r (.agg _ _ _ (by exact q9 (.imm _) (.nil _ _ _ (by decide) _) (.imm _) (.imm _) (.imm _) (.imm _) (.imm _) (.nil _ _ _ (by decide) _) (.imm _))) (.imm _)
   have hR:a1y (a2y W_ H_) n V_=((a1y 0 n V_).1,(a1y 0 n V_).2):=(by rw [h0.2];first | done | rfl);have hon:=a1Y (r:=l.drop (2+i+1)) (met:=met.reverse) (n:=n) hv58 hC_ (by rw [hR];rintro (h | h | h);(rw [h0.2] at h;omega);exact h0.1 ⟨List.mem_reverse.1 h.1,h.2⟩;(have h9:=hr2;have h8:(a1y 0 n V_).2=false:=h;rw [h8] at h9;cases h9));rw [ha3,hR] at hon
   refine ru 7 ?_
   exact hL1 ((i+1,(a1y 0 n V_).1,W_::met,q,gm)) _ _ (by (try dsimp only);exact ⟨by omega,by unfold a1y;rw [if_pos rfl];split;(simp;omega);exact ha2,by simp [ha4],by rw [List.reverse_cons];exact hon.symm⟩) (by (try dsimp only);omega) (a0c rfl (Nat.le_refl _) (tsr rfl (tsr rfl (tsr rfl (tsr rfl (tsr rfl (tsr rfl (a0E.cons rfl (a0S om) a0E.nil))))))) hsa)
  ·refine ru 6 ?_
   first
   | refine a4c 65 2 62 false _ (fun hb=>HOp.val (v':=a0g ((W_::met).count W_:Int)) (a0G a5W (l:=a4R (W_::met)) (a:=W_) rfl rfl (fun _ _ _ h=>h.imm_inv)) (a1P _ _)) rfl rfl rfl rfl (a0B rfl) rfl rfl rfl ?_
   | refine a3z 65 2 62 _ _ false _ (fun hb=>HOp.val (v':=a0g ((W_::met).count W_:Int)) (a0G a5W (l:=a4R (W_::met)) (a:=W_) rfl rfl (fun _ _ _ h=>h.imm_inv)) (a1P _ _)) rfl rfl rfl rfl (a0B rfl) rfl rfl rfl ?_
   refine ru 7 ?_
   refine rvl (a0x false) ((congrArg a0x (by rw [a4w];have h9:=h0.1;have h8:=h0.2;simp at h9;rw [h8];simpa using h9))) ?_
   refine a3d 73 72 false (a0l (xs:=[]) (a3P) trivial trivial) rfl rfl rfl rfl a0e rfl rfl ?_
   refine a3d 74 72 false (HOp.val (v':=a0g 1) (a1O rfl) ((congrArg a0g h0.2))) rfl rfl rfl rfl a0e rfl rfl ?_
   first
   | refine a3d 75 72 false (a3X el_112.h rfl rfl (by first | exact Nat.le_of_ble_eq_true rfl | (simp at hb;first | omega | (dsimp only;omega) | (simp <;> omega)) | omega | (dsimp only;omega)) (by first | exact Nat.le_of_ble_eq_true rfl | (simp at hb;first | omega | (dsimp only;omega) | (simp <;> omega)) | omega | (dsimp only;omega)) (by first | exact Nat.le_of_ble_eq_true rfl | (simp at hb;first | omega | (dsimp only;omega) | (simp <;> omega)) | omega | (dsimp only;omega))) rfl rfl rfl rfl a0e rfl rfl ?_
   | refine a3d 75 72 false (a2T el_112.h rfl rfl (by first | exact Nat.le_of_ble_eq_true rfl | (simp at hb;first | omega | (dsimp only;omega) | (simp <;> omega)) | omega | (dsimp only;omega)) (by first | exact Nat.le_of_ble_eq_true rfl | (simp at hb;first | omega | (dsimp only;omega) | (simp <;> omega)) | omega | (dsimp only;omega))) rfl rfl rfl rfl (a0B rfl) rfl rfl ?_
   first
   | refine a3d 76 72 false (a4v fd_115_2.h rfl) rfl rfl rfl rfl a0e rfl rfl ?_
   | refine a3d 76 72 false (a1U fd_115_2.h rfl (by first | exact Nat.le_of_ble_eq_true rfl | (simp at hb;first | omega | (dsimp only;omega) | (simp <;> omega)) | omega | (dsimp only;omega))) rfl rfl rfl rfl a0e rfl rfl ?_
   first
   | refine a3d 77 72 false (HOp.val (v':=.fn (.func 86) 0 (fun _=>default)) (a0H ty_113.h rfl (by first | exact Nat.le_of_ble_eq_true rfl | (simp at hb;first | omega | (dsimp only;omega) | (simp <;> omega)) | omega | (dsimp only;omega)) (by first | exact Nat.le_of_ble_eq_true rfl | (simp at hb;first | omega | (dsimp only;omega) | (simp <;> omega)) | omega | (dsimp only;omega)) (fun h=>(by first | rfl | cases h))) (rfl)) rfl rfl rfl rfl (a0B rfl) rfl rfl ?_
   | refine a3d 77 72 false (HOp.val (v':=.fn (.func 86) 0 (fun _=>default)) (a0q ty_113.h rfl (by first | exact Nat.le_of_ble_eq_true rfl | (simp at hb;first | omega | (dsimp only;omega) | (simp <;> omega)) | omega | (dsimp only;omega)) (fun h=>(by first | rfl | cases h))) (rfl)) rfl rfl rfl rfl a0e rfl rfl ?_
   refine a3d 78 72 false (a1O rfl) rfl rfl rfl rfl a0e rfl rfl ?_
   refine a4E 12 72 false rfl rfl ?_
   refine a3o 79 (xs:=[_,_]) (cs:=[]) (pre:=[(4,_),(8001,_)]) (b8f _ 1 g n V_) rfl rfl (fun i hi=>by first | rfl | (rcases i with i <;> first | rfl | (exact absurd hi om) | (simp at hi))) ⟨rfl,⟨rfl,trivial⟩⟩ (a0h rfl (a0h rfl a0e)) rfl rfl (fun x3 c3 hx3=>?_)
   (try dsimp only)
   refine a3d 80 72 false (a6b rfl) rfl rfl rfl rfl a0e rfl rfl ?_
   refine s0 (a3Q rfl rfl) ?_
   refine ru 2 ?_
   refine wdc (fun hr2 hc2=>?_) (fun hr2 hc2=>?_)
   ·skip
    exfalso;simp at hr2
   have hR:a1y (a2y W_ H_) n V_=({ n with inl:=true },true):=(by rw [h0.2];first | done | rfl);have hon:=a1Y (r:=l.drop (2+i+1)) (met:=met.reverse) (n:=n) hv58 hC_ (by rw [hR];rintro (h | h | h);(rw [h0.2] at h;omega);exact h0.1 ⟨List.mem_reverse.1 h.1,h.2⟩;cases h);rw [ha3,hR] at hon
   refine ru 7 ?_
   exact hL1 ((i+1,{ n with inl:=true },W_::met,g,gm)) _ _ (by (try dsimp only);exact ⟨by omega,ha2,by simp [ha4],by rw [List.reverse_cons];exact hon.symm⟩) (by (try dsimp only);omega) (a0c rfl (Nat.le_refl _) (tsr rfl (tsr rfl (tsr rfl (tsr rfl (tsr rfl (tsr rfl (a0E.cons rfl (a0S om) a0E.nil))))))) hsa)
  ·refine ru 6 ?_
   first
   | refine a4c 65 2 62 false _ (fun hb=>HOp.val (v':=a0g ((W_::met).count W_:Int)) (a0G a5W (l:=a4R (W_::met)) (a:=W_) rfl rfl (fun _ _ _ h=>h.imm_inv)) (a1P _ _)) rfl rfl rfl rfl (a0B rfl) rfl rfl rfl ?_
   | refine a3z 65 2 62 _ _ false _ (fun hb=>HOp.val (v':=a0g ((W_::met).count W_:Int)) (a0G a5W (l:=a4R (W_::met)) (a:=W_) rfl rfl (fun _ _ _ h=>h.imm_inv)) (a1P _ _)) rfl rfl rfl rfl (a0B rfl) rfl rfl rfl ?_
   refine ru 7 ?_
   refine rvl (a0x false) ((congrArg a0x (by rw [a4w];have h9:=h0.1;have h8:=h0.2;simp at h9;rw [h8];simpa using h9))) ?_
   refine a3d 73 72 false (a0l (xs:=[]) (a3P) trivial trivial) rfl rfl rfl rfl a0e rfl rfl ?_
   refine a3d 74 72 false (HOp.val (v':=a0g 2) (a1O rfl) ((congrArg a0g h0.2))) rfl rfl rfl rfl a0e rfl rfl ?_
   first
   | refine a3d 75 72 false (a3X el_112.h rfl rfl (by first | exact Nat.le_of_ble_eq_true rfl | (simp at hb;first | omega | (dsimp only;omega) | (simp <;> omega)) | omega | (dsimp only;omega)) (by first | exact Nat.le_of_ble_eq_true rfl | (simp at hb;first | omega | (dsimp only;omega) | (simp <;> omega)) | omega | (dsimp only;omega)) (by first | exact Nat.le_of_ble_eq_true rfl | (simp at hb;first | omega | (dsimp only;omega) | (simp <;> omega)) | omega | (dsimp only;omega))) rfl rfl rfl rfl a0e rfl rfl ?_
   | refine a3d 75 72 false (a2T el_112.h rfl rfl (by first | exact Nat.le_of_ble_eq_true rfl | (simp at hb;first | omega | (dsimp only;omega) | (simp <;> omega)) | omega | (dsimp only;omega)) (by first | exact Nat.le_of_ble_eq_true rfl | (simp at hb;first | omega | (dsimp only;omega) | (simp <;> omega)) | omega | (dsimp only;omega))) rfl rfl rfl rfl (a0B rfl) rfl rfl ?_
   first
   | refine a3d 76 72 false (a4v fd_115_2.h rfl) rfl rfl rfl rfl a0e rfl rfl ?_
   | refine a3d 76 72 false (a1U fd_115_2.h rfl (by first | exact Nat.le_of_ble_eq_true rfl | (simp at hb;first | omega | (dsimp only;omega) | (simp <;> omega)) | omega | (dsimp only;omega))) rfl rfl rfl rfl a0e rfl rfl ?_
   first
   | refine a3d 77 72 false (HOp.val (v':=.fn (.func 87) 0 (fun _=>default)) (a0H ty_113.h rfl (by first | exact Nat.le_of_ble_eq_true rfl | (simp at hb;first | omega | (dsimp only;omega) | (simp <;> omega)) | omega | (dsimp only;omega)) (by first | exact Nat.le_of_ble_eq_true rfl | (simp at hb;first | omega | (dsimp only;omega) | (simp <;> omega)) | omega | (dsimp only;omega)) (fun h=>(by first | rfl | cases h))) (rfl)) rfl rfl rfl rfl (a0B rfl) rfl rfl ?_
   | refine a3d 77 72 false (HOp.val (v':=.fn (.func 87) 0 (fun _=>default)) (a0q ty_113.h rfl (by first | exact Nat.le_of_ble_eq_true rfl | (simp at hb;first | omega | (dsimp only;omega) | (simp <;> omega)) | omega | (dsimp only;omega)) (fun h=>(by first | rfl | cases h))) (rfl)) rfl rfl rfl rfl a0e rfl rfl ?_
   refine a3d 78 72 false (a1O rfl) rfl rfl rfl rfl a0e rfl rfl ?_
   refine a4E 12 72 false rfl rfl ?_
   refine a3o 79 (xs:=[_,_]) (cs:=[]) (pre:=[(4,_),(8001,_)]) (b7k _ 1 g n V_) rfl rfl (fun i hi=>by first | rfl | (rcases i with i <;> first | rfl | (exact absurd hi om) | (simp at hi))) ⟨rfl,⟨rfl,trivial⟩⟩ (a0h rfl (a0h rfl a0e)) rfl rfl (fun x4 c4 hx4=>?_)
   (try dsimp only)
   refine a3d 80 72 false (a6b rfl) rfl rfl rfl rfl a0e rfl rfl ?_
   refine s0 (a3Q rfl rfl) ?_
   refine ru 2 ?_
   refine wdc (fun hr2 hc2=>?_) (fun hr2 hc2=>?_)
   ·skip
    exfalso;simp at hr2
   have hR:a1y (a2y W_ H_) n V_=({ n with pick:=true },true):=(by rw [h0.2];first | done | rfl);have hon:=a1Y (r:=l.drop (2+i+1)) (met:=met.reverse) (n:=n) hv58 hC_ (by rw [hR];rintro (h | h | h);(rw [h0.2] at h;omega);exact h0.1 ⟨List.mem_reverse.1 h.1,h.2⟩;cases h);rw [ha3,hR] at hon
   refine ru 7 ?_
   exact hL1 ((i+1,{ n with pick:=true },W_::met,g,gm)) _ _ (by (try dsimp only);exact ⟨by omega,ha2,by simp [ha4],by rw [List.reverse_cons];exact hon.symm⟩) (by (try dsimp only);omega) (a0c rfl (Nat.le_refl _) (tsr rfl (tsr rfl (tsr rfl (tsr rfl (tsr rfl (tsr rfl (a0E.cons rfl (a0S om) a0E.nil))))))) hsa)
  ·refine ru 6 ?_
   first
   | refine a4c 65 2 62 false _ (fun hb=>HOp.val (v':=a0g ((W_::met).count W_:Int)) (a0G a5W (l:=a4R (W_::met)) (a:=W_) rfl rfl (fun _ _ _ h=>h.imm_inv)) (a1P _ _)) rfl rfl rfl rfl (a0B rfl) rfl rfl rfl ?_
   | refine a3z 65 2 62 _ _ false _ (fun hb=>HOp.val (v':=a0g ((W_::met).count W_:Int)) (a0G a5W (l:=a4R (W_::met)) (a:=W_) rfl rfl (fun _ _ _ h=>h.imm_inv)) (a1P _ _)) rfl rfl rfl rfl (a0B rfl) rfl rfl rfl ?_
   refine ru 7 ?_
   refine rvl (a0x false) ((congrArg a0x (by rw [a4w];have h9:=h0.1;have h8:=h0.2;simp at h9;rw [h8];simpa using h9))) ?_
   refine a3d 73 72 false (a0l (xs:=[]) (a3P) trivial trivial) rfl rfl rfl rfl a0e rfl rfl ?_
   refine a3d 74 72 false (HOp.val (v':=a0g 3) (a1O rfl) ((congrArg a0g h0.2))) rfl rfl rfl rfl a0e rfl rfl ?_
   first
   | refine a3d 75 72 false (a3X el_112.h rfl rfl (by first | exact Nat.le_of_ble_eq_true rfl | (simp at hb;first | omega | (dsimp only;omega) | (simp <;> omega)) | omega | (dsimp only;omega)) (by first | exact Nat.le_of_ble_eq_true rfl | (simp at hb;first | omega | (dsimp only;omega) | (simp <;> omega)) | omega | (dsimp only;omega)) (by first | exact Nat.le_of_ble_eq_true rfl | (simp at hb;first | omega | (dsimp only;omega) | (simp <;> omega)) | omega | (dsimp only;omega))) rfl rfl rfl rfl a0e rfl rfl ?_
   | refine a3d 75 72 false (a2T el_112.h rfl rfl (by first | exact Nat.le_of_ble_eq_true rfl | (simp at hb;first | omega | (dsimp only;omega) | (simp <;> omega)) | omega | (dsimp only;omega)) (by first | exact Nat.le_of_ble_eq_true rfl | (simp at hb;first | omega | (dsimp only;omega) | (simp <;> omega)) | omega | (dsimp only;omega))) rfl rfl rfl rfl (a0B rfl) rfl rfl ?_
   first
   | refine a3d 76 72 false (a4v fd_115_2.h rfl) rfl rfl rfl rfl a0e rfl rfl ?_
   | refine a3d 76 72 false (a1U fd_115_2.h rfl (by first | exact Nat.le_of_ble_eq_true rfl | (simp at hb;first | omega | (dsimp only;omega) | (simp <;> omega)) | omega | (dsimp only;omega))) rfl rfl rfl rfl a0e rfl rfl ?_
   first
   | refine a3d 77 72 false (HOp.val (v':=.fn (.func 88) 0 (fun _=>default)) (a0H ty_113.h rfl (by first | exact Nat.le_of_ble_eq_true rfl | (simp at hb;first | omega | (dsimp only;omega) | (simp <;> omega)) | omega | (dsimp only;omega)) (by first | exact Nat.le_of_ble_eq_true rfl | (simp at hb;first | omega | (dsimp only;omega) | (simp <;> omega)) | omega | (dsimp only;omega)) (fun h=>(by first | rfl | cases h))) (rfl)) rfl rfl rfl rfl (a0B rfl) rfl rfl ?_
   | refine a3d 77 72 false (HOp.val (v':=.fn (.func 88) 0 (fun _=>default)) (a0q ty_113.h rfl (by first | exact Nat.le_of_ble_eq_true rfl | (simp at hb;first | omega | (dsimp only;omega) | (simp <;> omega)) | omega | (dsimp only;omega)) (fun h=>(by first | rfl | cases h))) (rfl)) rfl rfl rfl rfl a0e rfl rfl ?_
   refine a3d 78 72 false (a1O rfl) rfl rfl rfl rfl a0e rfl rfl ?_
   refine a4E 12 72 false rfl rfl ?_
   refine a3o 79 (xs:=[_,_]) (cs:=[]) (pre:=[(4,_),(8001,_)]) (c2W _ 1 g n V_ hVl) rfl rfl (fun i hi=>by first | rfl | (rcases i with i <;> first | rfl | (exact absurd hi om) | (simp at hi))) ⟨rfl,⟨rfl,trivial⟩⟩ (a0h rfl (a0h rfl a0e)) rfl rfl (fun x5 c5 hx5=>?_)
   (try dsimp only)
   refine a3d 80 72 false (a6b rfl) rfl rfl rfl rfl a0e rfl rfl ?_
   refine s0 (a3Q rfl rfl) ?_
   refine ru 2 ?_
   refine wdc (fun hr2 hc2=>?_) (fun hr2 hc2=>?_)
   ·skip
    have hR:a1y (a2y W_ H_) n V_=({ n with attr:=(a2U V_).getD 0 },(a1v V_).isSome):=(by rw [h0.2];first | done | rfl);have hbad:=a1J (r:=l.drop (2+i+1)) (met:=met.reverse) (n:=n) hv58 hC_ (.inr (.inr (by rw [hR];simpa using hr2)))
    refine ru 10 ?_
    refine a0f ?_
    refine ru 2 ?_
    refine rt2 ?_
    rw [←ha3,hbad];exact a1r (.agg _ _ _ (by exact q9 (.imm _) (.nil _ _ _ (by decide) _) (.imm _) (.imm _) (.imm _) (.imm _) (.imm _) (.nil _ _ _ (by decide) _) (.imm _))) (.imm _)
   have hR:a1y (a2y W_ H_) n V_=({ n with attr:=(a2U V_).getD 0 },(a1v V_).isSome):=(by rw [h0.2];first | done | rfl);have hon:=a1Y (r:=l.drop (2+i+1)) (met:=met.reverse) (n:=n) hv58 hC_ (by rw [hR];rintro (h | h | h);(rw [h0.2] at h;omega);exact h0.1 ⟨List.mem_reverse.1 h.1,h.2⟩;(have h9:=hr2;have h8:(a1v V_).isSome=false:=h;rw [h8] at h9;cases h9));rw [ha3,hR] at hon
   refine ru 7 ?_
   exact hL1 ((i+1,{ n with attr:=(a2U V_).getD 0 },W_::met,g,gm)) _ _ (by (try dsimp only);exact ⟨by omega,ha2,by simp [ha4],by rw [List.reverse_cons];exact hon.symm⟩) (by (try dsimp only);omega) (a0c rfl (Nat.le_refl _) (tsr rfl (tsr rfl (tsr rfl (tsr rfl (tsr rfl (tsr rfl (a0E.cons rfl (a0S om) a0E.nil))))))) hsa)
  ·refine ru 6 ?_
   first
   | refine a4c 65 2 62 false _ (fun hb=>HOp.val (v':=a0g ((W_::met).count W_:Int)) (a0G a5W (l:=a4R (W_::met)) (a:=W_) rfl rfl (fun _ _ _ h=>h.imm_inv)) (a1P _ _)) rfl rfl rfl rfl (a0B rfl) rfl rfl rfl ?_
   | refine a3z 65 2 62 _ _ false _ (fun hb=>HOp.val (v':=a0g ((W_::met).count W_:Int)) (a0G a5W (l:=a4R (W_::met)) (a:=W_) rfl rfl (fun _ _ _ h=>h.imm_inv)) (a1P _ _)) rfl rfl rfl rfl (a0B rfl) rfl rfl rfl ?_
   refine ru 7 ?_
   refine rvl (a0x false) ((congrArg a0x (by rw [a4w];have h9:=h0.1;have h8:=h0.2;simp at h9;rw [h8];simpa using h9))) ?_
   refine a3d 73 72 false (a0l (xs:=[]) (a3P) trivial trivial) rfl rfl rfl rfl a0e rfl rfl ?_
   refine a3d 74 72 false (HOp.val (v':=a0g 4) (a1O rfl) ((congrArg a0g h0.2))) rfl rfl rfl rfl a0e rfl rfl ?_
   first
   | refine a3d 75 72 false (a3X el_112.h rfl rfl (by first | exact Nat.le_of_ble_eq_true rfl | (simp at hb;first | omega | (dsimp only;omega) | (simp <;> omega)) | omega | (dsimp only;omega)) (by first | exact Nat.le_of_ble_eq_true rfl | (simp at hb;first | omega | (dsimp only;omega) | (simp <;> omega)) | omega | (dsimp only;omega)) (by first | exact Nat.le_of_ble_eq_true rfl | (simp at hb;first | omega | (dsimp only;omega) | (simp <;> omega)) | omega | (dsimp only;omega))) rfl rfl rfl rfl a0e rfl rfl ?_
   | refine a3d 75 72 false (a2T el_112.h rfl rfl (by first | exact Nat.le_of_ble_eq_true rfl | (simp at hb;first | omega | (dsimp only;omega) | (simp <;> omega)) | omega | (dsimp only;omega)) (by first | exact Nat.le_of_ble_eq_true rfl | (simp at hb;first | omega | (dsimp only;omega) | (simp <;> omega)) | omega | (dsimp only;omega))) rfl rfl rfl rfl (a0B rfl) rfl rfl ?_
   first
   | refine a3d 76 72 false (a4v fd_115_2.h rfl) rfl rfl rfl rfl a0e rfl rfl ?_
   | refine a3d 76 72 false (a1U fd_115_2.h rfl (by first | exact Nat.le_of_ble_eq_true rfl | (simp at hb;first | omega | (dsimp only;omega) | (simp <;> omega)) | omega | (dsimp only;omega))) rfl rfl rfl rfl a0e rfl rfl ?_
   first
   | refine a3d 77 72 false (HOp.val (v':=.fn (.func 89) 0 (fun _=>default)) (a0H ty_113.h rfl (by first | exact Nat.le_of_ble_eq_true rfl | (simp at hb;first | omega | (dsimp only;omega) | (simp <;> omega)) | omega | (dsimp only;omega)) (by first | exact Nat.le_of_ble_eq_true rfl | (simp at hb;first | omega | (dsimp only;omega) | (simp <;> omega)) | omega | (dsimp only;omega)) (fun h=>(by first | rfl | cases h))) (rfl)) rfl rfl rfl rfl (a0B rfl) rfl rfl ?_
   | refine a3d 77 72 false (HOp.val (v':=.fn (.func 89) 0 (fun _=>default)) (a0q ty_113.h rfl (by first | exact Nat.le_of_ble_eq_true rfl | (simp at hb;first | omega | (dsimp only;omega) | (simp <;> omega)) | omega | (dsimp only;omega)) (fun h=>(by first | rfl | cases h))) (rfl)) rfl rfl rfl rfl a0e rfl rfl ?_
   refine a3d 78 72 false (a1O rfl) rfl rfl rfl rfl a0e rfl rfl ?_
   refine a4E 12 72 false rfl rfl ?_
   refine a3o 79 (xs:=[_,_]) (cs:=[]) (pre:=[(4,_),(8001,_)]) (b9L _ 1 g n V_ hVl) rfl rfl (fun i hi=>by first | rfl | (rcases i with i <;> first | rfl | (exact absurd hi om) | (simp at hi))) ⟨rfl,⟨rfl,trivial⟩⟩ (a0h rfl (a0h rfl a0e)) rfl rfl (fun x6 c6 hx6=>?_)
   (try dsimp only)
   refine a3d 80 72 false (a6b rfl) rfl rfl rfl rfl a0e rfl rfl ?_
   refine s0 (a3Q rfl rfl) ?_
   refine ru 2 ?_
   refine wdc (fun hr2 hc2=>?_) (fun hr2 hc2=>?_)
   ·skip
    have hR:a1y (a2y W_ H_) n V_=({ n with all:=((a0T V_).getD (false,[])).1,marks:=((a0T V_).getD (false,[])).2 },(a0T V_).isSome):=(by rw [h0.2];first | done | rfl);have hbad:=a1J (r:=l.drop (2+i+1)) (met:=met.reverse) (n:=n) hv58 hC_ (.inr (.inr (by rw [hR];simpa using hr2)))
    refine ru 10 ?_
    refine a0f ?_
    refine ru 2 ?_
    refine rt2 ?_
    rw [←ha3,hbad];exact a1r (.agg _ _ _ (by exact q9 (.imm _) (.nil _ _ _ (by decide) _) (.imm _) (.imm _) (.imm _) (.imm _) (.imm _) (.nil _ _ _ (by decide) _) (.imm _))) (.imm _)
   have hR:a1y (a2y W_ H_) n V_=({ n with all:=((a0T V_).getD (false,[])).1,marks:=((a0T V_).getD (false,[])).2 },(a0T V_).isSome):=(by rw [h0.2];first | done | rfl);have hon:=a1Y (r:=l.drop (2+i+1)) (met:=met.reverse) (n:=n) hv58 hC_ (by rw [hR];rintro (h | h | h);(rw [h0.2] at h;omega);exact h0.1 ⟨List.mem_reverse.1 h.1,h.2⟩;(have h9:=hr2;have h8:(a0T V_).isSome=false:=h;rw [h8] at h9;cases h9));rw [ha3,hR] at hon
   refine ru 7 ?_
   exact hL1 ((i+1,{ n with all:=((a0T V_).getD (false,[])).1,marks:=((a0T V_).getD (false,[])).2 },W_::met,g,gm)) _ _ (by (try dsimp only);exact ⟨by omega,ha2,by simp [ha4],by rw [List.reverse_cons];exact hon.symm⟩) (by (try dsimp only);omega) (a0c rfl (Nat.le_refl _) (tsr rfl (tsr rfl (tsr rfl (tsr rfl (tsr rfl (tsr rfl (a0E.cons rfl (a0S om) a0E.nil))))))) hsa)
 rw [List.drop_of_length_le (show l.length≤2+i by omega)] at ha3
 refine ru 2 ?_
 refine a0d ?_
 refine ru 10 ?_
 refine a4B rfl (a0N rfl rfl ty_46.h rqc rfl rfl) (a0k rfl) [(8001,_)] rfl (a0h rfl a0e) ?_
 rw [←ha3];exact a1r (.agg _ _ _ (by exact q9 (.imm _) (a1z (l:=n.groups) (enc:=fun x _=>a0r x) (d:=[]) (List.mem_cons_self ..) rfl rfl (Nat.le_refl _) (fun i j hi hj=>.imm _)) (.imm _) (.imm _) (.imm _) (.imm _) (.imm _) (show Fz _ (a1a n.marks) (a1a n.marks) from .sl _ _ _ _ fun _ _ _ _=>.imm _) (.imm _))) (.imm _)
@[reducible] def a6n (m:Mk):Nat→HV:=fun j=>match j with
 | 0=>a0r m.name
 | 1=>a0g m.val
 | 2=>a0x m.all
 | _=>a1a m.bars
@[reducible] def mkV (m:Mk):HV:=.agg 4 (a6n m)
@[reducible] def c4m (x:Mk×Bool):HV:=t2 (mkV x.1) (a0x x.2)
@[reducible] def zMk (s:Bs):Nat→HV:=fun j=>match j with
 | 0=>a0r s
 | 1=>a0g 0
 | 2=>a0x false
 | _=>.imm (.slice none 0 0)
@[reducible] def c4y (g:Nat) (m:Mk):HObj:=⟨g,1,4,58,0,fun _=>a6n m⟩
theorem qm4 {p:Nat→Prop} (h0:p 0) (h1:p 1) (h2:p 2) (h3:p 3):∀ j,j < 4→p j:=fun j hj=>by
 match j,hj with
 | 0,_=>exact h0
 | 1,_=>exact h1
 | 2,_=>exact h2
 | 3,_=>exact h3
theorem a9a {g ty fl:Nat} {f f':Nat→Nat→HV} (h:∀ j,j < 4→Sb (f 0 j) (f' 0 j)) (hfn:fl≤1:=by exact Nat.zero_le _):a5V ⟨g,1,4,ty,fl,f⟩ ⟨g,1,4,ty,fl,f'⟩:=.of (hfn:=hfn) fun i j hi hj=>by
 obtain rfl:i=0:=by omega
 exact h j hj
theorem a3W {w:Bs} {r met:List Bs} {m:Mk} {W V:Bs} {H:Bool} (hc:a3R 61 w=(W,V,H)) (h:H=false∨(a2W W m V).2=false∨W∈met):a9C (w::r) met m=(Mk.zero,false):=by
 show (if _ then _ else _)=_
 rw [hc,if_pos h]
theorem a7a {w:Bs} {r met:List Bs} {m:Mk} {W V:Bs} {H:Bool} (hc:a3R 61 w=(W,V,H)) (h:¬ (H=false∨(a2W W m V).2=false∨W∈met)):a9C (w::r) met m=a9C r (met++[W]) (a2W W m V).1:=by
 show (if _ then _ else _)=_
 rw [hc,if_neg h]
theorem c1Q (l:List Bs) (hl:2≤l.length∧l.length≤100000) (hw:∀ w∈l,w.length≤100000):a0t Tryz.prog 41 [a1a l] (c4m (a4G l)):=by
 refine a0n Tryz.func41 rfl kr _ _ _ rfl 68 rfl rfl (fun w F=>?_)
 refine ru 11 ?_
 refine rvl (a0r (l.getD 1 [])) (rfl) ?_
 refine ru 7 ?_
 refine a0p 16 (a7l (id:=16)) rfl rfl a0e rfl rfl (c':=4) rfl ?_
 refine ru 13 ?_
 refine a0o (α:=Nat×Mk×List Bs×Nat) (fun x c=>⟨68,[(0,.v (a1a l)),(2,.v (.pt 2 0 0 0)),(4,.v (.pt 4 1 0 0)),(5,.v (.mp 16 x.2.2.2)),(18,.v (c2V l)),(19,.v (a0g ((l.length - 2:Nat):Int))),(20,.v (a0g (x.1:Int)))],[(2,⟨0,1,4,58,0,fun _=>zMk []⟩),(4,c4y 1 x.2.1),(16,b2F x.2.2.2 (encL (fun x=>Value.string ⟨x.toArray⟩) (a4R x.2.2.1)))],c⟩) (fun x=>x.1≤l.length - 2∧x.2.2.1.length=x.1∧a9C (l.drop (2+x.1)) x.2.2.1.reverse x.2.1=a4G l) (fun x=>l.length - x.1) ((0,⟨l.getD 1 [],0,false,[]⟩,[],3)) (by exact ⟨Nat.zero_le _,rfl,rfl⟩) (a0c rfl (Nat.le_refl _) (tsr rfl (tsr rfl (tsr rfl (tsr rfl (a0E.cons rfl (by rw [show ((l.length:Int) - 2).toNat=l.length - 2 by omega];exact .refl _) (a0E.cons rfl (a0S om) tsa)))))) (a0j.cons rfl (a9a (by exact qm4 (.refl _) (.refl _) (.refl _) (.refl _))) (a0j.cons rfl (a9a (by exact qm4 (.refl _) (.refl _) (.refl _) (.nil _ _ _ (by decide) _))) hsa))) (fun x c hx NhL1 hL1=>?_)
 revert hx hL1;obtain ⟨i,m,met,gm⟩:=x;intro hx hL1;dsimp only at hx hL1 ⊢
 obtain ⟨ha1,ha4,ha3⟩:=hx
 refine ru 6 ?_
 refine wdc (fun hr0 hc0=>?_) (fun hr0 hc0=>?_)
 ·skip
  have hil:2+i < l.length:=om;obtain ⟨v_,hv_⟩:∃ v_,l.getD (2+i) []=v_:=⟨_,rfl⟩;have hd_:l.drop (2+i)=v_::l.drop (2+i+1):=(by rw [List.drop_eq_getElem_cons hil,←hv_,List.getD_eq_getElem?_getD,List.getElem?_eq_getElem hil];rfl);have hvl:v_.length≤1000000:=(by have:=hw v_ (by rw [←hv_];exact a1X hil);omega);rw [hd_] at ha3;obtain ⟨⟨W_,V_,H_⟩,hC_⟩:∃ q,a3R 61 v_=q:=⟨_,rfl⟩;have hcut:a0t Tryz.prog 57 [a0r v_,a0r [61]] (c1E (W_,V_,H_)):=(by rw [←hC_];exact c2P v_ 61 hvl);have hmc:met.count W_≤met.length:=List.count_le_length;have hVl:V_.length≤1000000:=(by have:=a4h 61 v_;rw [hC_] at this;have h9:V_.length≤v_.length:=this;omega)
  refine ru 8 ?_
  refine rvl (a0r v_) ((by rw [←hv_];show a0r (l.getD (2+((i:Nat):Int).toNat) [])=_;rw [show ((i:Nat):Int).toNat=i by omega])) ?_
  refine ru 6 ?_
  refine cll (hcut) ?_
  refine ru 27 ?_
  refine wdc (fun hr1 hc1=>?_) (fun hr1 hc1=>?_)
  ·skip
   have hWv:W_=c2I:=(by simpa using hr1)
   refine ru 2 ?_
   refine cll (b5b V_ hVl) ?_
   refine ru 13 ?_
   refine st1 (HOp.val (v':=a0g (met.count W_:Int)) (a0G a5W (l:=a4R met) (a:=W_) rfl rfl (fun _ _ _ h=>h.imm_inv)) (a1P _ _)) rfl rfl rfl ?_
   refine ru 1 ?_
   refine b4a (a3e a5W (l:=a4R met) (a:=W_) (v:=.int .i64 ((met.count W_:Int)+1)) rfl rfl (fun _ _ _ h=>h.imm_inv) rfl) rfl rfl (a0B rfl) (c':=c+2) rfl ?_
   refine ru 13 ?_
   first
   | refine a4c 62 6 59 false _ (fun hb=>HOp.val (v':=a0g ((W_::met).count W_:Int)) (a0G a5W (l:=a4R (W_::met)) (a:=W_) rfl rfl (fun _ _ _ h=>h.imm_inv)) (a1P _ _)) rfl rfl rfl rfl (a0B rfl) rfl rfl rfl ?_
   | refine a3z 62 6 59 _ _ false _ (fun hb=>HOp.val (v':=a0g ((W_::met).count W_:Int)) (a0G a5W (l:=a4R (W_::met)) (a:=W_) rfl rfl (fun _ _ _ h=>h.imm_inv)) (a1P _ _)) rfl rfl rfl rfl (a0B rfl) rfl rfl rfl ?_
   refine ru 4 ?_
   refine wdc (fun hr3 hc3=>?_) (fun hr3 hc3=>?_)
   ·skip
    have hR:a2W W_ m V_=({ m with val:=(a2U V_).getD 0 },(a1v V_).isSome):=(by unfold a2W;rw [if_pos hWv]);have hcg:(1 < ((W_::met).count W_:Int))↔W_∈met:=(by have:=a4w W_ met;simpa using this);have hbad:=a3W (r:=l.drop (2+i+1)) (met:=met.reverse) (m:=m) hC_ (by rw [hR];have h9:=hc3;rw [hcg] at h9;rcases h9 with (h | h) | h;exact .inl h;exact .inr (.inl h);exact .inr (.inr (List.mem_reverse.2 h)))
    refine ru 10 ?_
    refine a0f ?_
    refine ru 2 ?_
    refine rt2 ?_
    rw [←ha3,hbad];exact a1r (.agg _ _ _ (by exact qm4 (.imm _) (.imm _) (.imm _) (.nil _ _ _ (by decide) _))) (.imm _)
   have hR:a2W W_ m V_=({ m with val:=(a2U V_).getD 0 },(a1v V_).isSome):=(by unfold a2W;rw [if_pos hWv]);have hcg:(1 < ((W_::met).count W_:Int))↔W_∈met:=(by have:=a4w W_ met;simpa using this);have hon:=a7a (r:=l.drop (2+i+1)) (met:=met.reverse) (m:=m) hC_ (by rw [hR];have h9:=hc3;rw [hcg] at h9;obtain ⟨⟨b1,b2⟩,b3⟩:=h9;rintro (h | h | h);(rw [h] at b1;cases b1);(have h8:(a1v V_).isSome=false:=h;rw [h8] at b2;cases b2);exact b3 (List.mem_reverse.1 h));rw [ha3,hR] at hon
   refine ru 7 ?_
   exact hL1 ((i+1,{ m with val:=(a2U V_).getD 0 },W_::met,gm)) _ _ (by (try dsimp only);exact ⟨by omega,by simp [ha4],by rw [List.reverse_cons];exact hon.symm⟩) (by (try dsimp only);omega) (a0c rfl (Nat.le_refl _) (tsr rfl (tsr rfl (tsr rfl (tsr rfl (tsr rfl (tsr rfl (a0E.cons rfl (a0S om) a0E.nil))))))) (hsr rfl (a0j.cons rfl (a9a (by exact qm4 (.refl _) (.refl _) (.refl _) (.refl _))) hsa)))
  have hWv:W_≠c2I:=(by simpa using hr1)
  refine ru 6 ?_
  refine wdc (fun hr2 hc2=>?_) (fun hr2 hc2=>?_)
  ·skip
   have hWb:W_=b6f:=(by simpa using hr2)
   refine ru 2 ?_
   refine cll (b9v V_ hVl) ?_
   refine ru 16 ?_
   refine st1 (HOp.val (v':=a0g (met.count W_:Int)) (a0G a5W (l:=a4R met) (a:=W_) rfl rfl (fun _ _ _ h=>h.imm_inv)) (a1P _ _)) rfl rfl rfl ?_
   refine ru 1 ?_
   refine b4a (a3e a5W (l:=a4R met) (a:=W_) (v:=.int .i64 ((met.count W_:Int)+1)) rfl rfl (fun _ _ _ h=>h.imm_inv) rfl) rfl rfl (a0B rfl) (c':=c+3) rfl ?_
   refine ru 13 ?_
   first
   | refine a4c 62 6 59 false _ (fun hb=>HOp.val (v':=a0g ((W_::met).count W_:Int)) (a0G a5W (l:=a4R (W_::met)) (a:=W_) rfl rfl (fun _ _ _ h=>h.imm_inv)) (a1P _ _)) rfl rfl rfl rfl (a0B rfl) rfl rfl rfl ?_
   | refine a3z 62 6 59 _ _ false _ (fun hb=>HOp.val (v':=a0g ((W_::met).count W_:Int)) (a0G a5W (l:=a4R (W_::met)) (a:=W_) rfl rfl (fun _ _ _ h=>h.imm_inv)) (a1P _ _)) rfl rfl rfl rfl (a0B rfl) rfl rfl rfl ?_
   refine ru 4 ?_
   refine wdc (fun hr3 hc3=>?_) (fun hr3 hc3=>?_)
   ·skip
    have hR:a2W W_ m V_=({ m with all:=((a0T V_).getD (false,[])).1,bars:=((a0T V_).getD (false,[])).2 },(a0T V_).isSome):=(by unfold a2W;rw [if_neg hWv,if_pos hWb]);have hcg:(1 < ((W_::met).count W_:Int))↔W_∈met:=(by have:=a4w W_ met;simpa using this);have hbad:=a3W (r:=l.drop (2+i+1)) (met:=met.reverse) (m:=m) hC_ (by rw [hR];have h9:=hc3;rw [hcg] at h9;rcases h9 with (h | h) | h;exact .inl h;exact .inr (.inl h);exact .inr (.inr (List.mem_reverse.2 h)))
    refine ru 10 ?_
    refine a0f ?_
    refine ru 2 ?_
    refine rt2 ?_
    rw [←ha3,hbad];exact a1r (.agg _ _ _ (by exact qm4 (.imm _) (.imm _) (.imm _) (.nil _ _ _ (by decide) _))) (.imm _)
   have hR:a2W W_ m V_=({ m with all:=((a0T V_).getD (false,[])).1,bars:=((a0T V_).getD (false,[])).2 },(a0T V_).isSome):=(by unfold a2W;rw [if_neg hWv,if_pos hWb]);have hcg:(1 < ((W_::met).count W_:Int))↔W_∈met:=(by have:=a4w W_ met;simpa using this);have hon:=a7a (r:=l.drop (2+i+1)) (met:=met.reverse) (m:=m) hC_ (by rw [hR];have h9:=hc3;rw [hcg] at h9;obtain ⟨⟨b1,b2⟩,b3⟩:=h9;rintro (h | h | h);(rw [h] at b1;cases b1);(have h8:(a0T V_).isSome=false:=h;rw [h8] at b2;cases b2);exact b3 (List.mem_reverse.1 h));rw [ha3,hR] at hon
   refine ru 7 ?_
   exact hL1 ((i+1,{ m with all:=((a0T V_).getD (false,[])).1,bars:=((a0T V_).getD (false,[])).2 },W_::met,gm)) _ _ (by (try dsimp only);exact ⟨by omega,by simp [ha4],by rw [List.reverse_cons];exact hon.symm⟩) (by (try dsimp only);omega) (a0c rfl (Nat.le_refl _) (tsr rfl (tsr rfl (tsr rfl (tsr rfl (tsr rfl (tsr rfl (a0E.cons rfl (a0S om) a0E.nil))))))) (hsr rfl (a0j.cons rfl (a9a (by exact qm4 (.refl _) (.refl _) (.refl _) (.refl _))) hsa)))
  have hWb:W_≠b6f:=(by simpa using hr2)
  refine ru 7 ?_
  refine st1 (HOp.val (v':=a0g (met.count W_:Int)) (a0G a5W (l:=a4R met) (a:=W_) rfl rfl (fun _ _ _ h=>h.imm_inv)) (a1P _ _)) rfl rfl rfl ?_
  refine ru 1 ?_
  refine b4a (a3e a5W (l:=a4R met) (a:=W_) (v:=.int .i64 ((met.count W_:Int)+1)) rfl rfl (fun _ _ _ h=>h.imm_inv) rfl) rfl rfl (a0B rfl) (c':=c+1) rfl ?_
  refine ru 13 ?_
  first
  | refine a4c 62 6 59 false _ (fun hb=>HOp.val (v':=a0g ((W_::met).count W_:Int)) (a0G a5W (l:=a4R (W_::met)) (a:=W_) rfl rfl (fun _ _ _ h=>h.imm_inv)) (a1P _ _)) rfl rfl rfl rfl (a0B rfl) rfl rfl rfl ?_
  | refine a3z 62 6 59 _ _ false _ (fun hb=>HOp.val (v':=a0g ((W_::met).count W_:Int)) (a0G a5W (l:=a4R (W_::met)) (a:=W_) rfl rfl (fun _ _ _ h=>h.imm_inv)) (a1P _ _)) rfl rfl rfl rfl (a0B rfl) rfl rfl rfl ?_
  refine ru 4 ?_
  refine wdc (fun hr3 hc3=>?_) (fun hr3 hc3=>?_)
  ·skip
   have hR:a2W W_ m V_=(m,false):=(by unfold a2W;rw [if_neg hWv,if_neg hWb]);have hcg:(1 < ((W_::met).count W_:Int))↔W_∈met:=(by have:=a4w W_ met;simpa using this);have hbad:=a3W (r:=l.drop (2+i+1)) (met:=met.reverse) (m:=m) hC_ (by rw [hR];exact .inr (.inl rfl))
   refine ru 10 ?_
   refine a0f ?_
   refine ru 2 ?_
   refine rt2 ?_
   rw [←ha3,hbad];exact a1r (.agg _ _ _ (by exact qm4 (.imm _) (.imm _) (.imm _) (.nil _ _ _ (by decide) _))) (.imm _)
  exfalso;simp at hr3
 rw [List.drop_of_length_le (show l.length≤2+i by omega)] at ha3
 refine ru 2 ?_
 refine a0d ?_
 refine ru 10 ?_
 refine rt2 ?_
 rw [←ha3];exact a1r (.agg _ _ _ (by exact qm4 (.imm _) (.imm _) (.imm _) (show Fz _ (a1a m.bars) (a1a m.bars) from .sl _ _ _ _ fun _ _ _ _=>.imm _))) (.imm _)
@[reducible] def b4f (l:List Nd):Nat→Nat→HV:=fun i=>a6F (l.getD i default)
@[reducible] def b7r (g:Nat) (l:List Nd):HObj:=⟨g,l.length,9,46,0,b4f l⟩
@[reducible] def b4F (l:List Mk):Nat→Nat→HV:=fun i=>a6n (l.getD i default)
@[reducible] def b7q (g:Nat) (l:List Mk):HObj:=⟨g,l.length,4,58,0,b4F l⟩
theorem a4e {sh:List (Nat×HObj)} (n:Nd):∀ j,j < 9→Fz sh (a6F n j) (a6F n j):=by
 exact q9 (.imm _) (.sl _ _ _ _ fun _ _ _ _=>.imm _) (.imm _) (.imm _) (.imm _) (.imm _) (.imm _) (.sl _ _ _ _ fun _ _ _ _=>.imm _) (.imm _)
theorem a4q {sh:List (Nat×HObj)} (m:Mk):∀ j,j < 4→Fz sh (a6n m j) (a6n m j):=by
 exact qm4 (.imm _) (.imm _) (.imm _) (.sl _ _ _ _ fun _ _ _ _=>.imm _)
theorem a6P {kp sh:List (Nat×HObj)} {g:Nat} {n:Nd}:OKz kp sh ⟨g,1,9,46,0,fun _=>a6F n⟩ ⟨g,1,9,46,0,fun _=>a6F n⟩:=.of fun i j hi hj=>.fz _ _ (a4e n j hj)
theorem a2j {kp sh:List (Nat×HObj)} {g:Nat} {l:List Nd}:OKz kp sh (b7r g l) (b7r g l):=.of fun i j hi hj=>.fz _ _ (a4e _ j hj)
theorem c0R (c g5:Nat) (o n:Nd):a3k Tryz.prog 40 c ([.agg 9 (a6F o)]++[.pt 5 g5 0 0]) [(5,⟨g5,1,9,46,0,fun _=>a6F n⟩)] (a5r (fun (_:Unit) _=>True) (fun _=>a0x (decide (o.name=n.name))) (fun _=>[(5,⟨g5,1,9,46,0,fun _=>a6F n⟩)])):=by
 show a3k _ _ _ [.agg 9 (a6F o),.pt 5 g5 0 0] _ _
 refine a0v Tryz.func40 rfl kr _ _ _ _ rfl 9 rfl rfl (fun X ok hX=>?_)
 refine ru 17 ?_
 refine fr1 ok hX rw1 (()) (trivial) (kza) ?_
 exact ⟨⟨_,rfl,a6P⟩,trivial⟩
theorem b8t (g g5:Nat) (l:List Nd) (n:Nd) (hl:l.length≤100000):a5a Tryz.prog 61 [.os 8101 g 0 l.length,.fn (.func 40) 1 (fun i=>[HV.pt 5 g5 0 0].getD i default)] [(8101,b7r g l),(5,⟨g5,1,9,46,0,fun _=>a6F n⟩)] (a0g (b8M (fun o=>decide (o.name=n.name)) l)) [(8101,b7r g l),(5,⟨g5,1,9,46,0,fun _=>a6F n⟩)]:=by
 intro c
 refine a0v Tryz.func61 rfl kr _ _ _ _ rfl 19 rfl rfl (fun X ok hX=>?_)
 refine ru 14 ?_
 refine a0o (α:=Nat) (fun x c=>⟨19,[(0,.v (.os 8101 g 0 l.length)),(1,.v (.fn (.func 40) 1 (fun i=>[HV.pt 5 g5 0 0].getD i default))),(7,.v (a0g l.length)),(8,.v (a0g x))],[(8101,b7r g l),(5,⟨g5,1,9,46,0,fun _=>a6F n⟩)],c⟩) (fun x=>x≤l.length∧∀ i,i < x→decide ((l.getD i default).name=n.name)=false) (fun x=>l.length - x) (0) (by exact ⟨Nat.zero_le _,fun i h=>absurd h (Nat.not_lt_zero _)⟩) (a0c rfl (Nat.le_refl _) tsa hsa) (fun k c hx NhL1 hL1=>?_)
 (try dsimp only at hx hL1 ⊢)
 obtain ⟨hk,hE⟩:=hx
 refine ru 6 ?_
 refine wdc (fun hr0 hc0=>?_) (fun hr0 hc0=>?_)
 ·refine ru 17 ?_
  refine rvl (.agg 9 (a6F (l.getD k default))) ((by simp only [Nat.zero_add];rfl)) ?_
  refine a3o 16 (xs:=[_]) (cs:=[_]) (pre:=[(5,_)]) (c0R _ g5 (l.getD k default) n) rfl rfl (fun i hi=>by first | rfl | (rcases i with _ | i <;> first | rfl | (exact absurd hi om) | (simp at hi))) ⟨rfl,trivial⟩ (a0h rfl a0e) rfl rfl (fun x1 c1 hx1=>?_)
  (try dsimp only)
  refine ru 2 ?_
  refine wdc (fun hr1 hc1=>?_) (fun hr1 hc1=>?_)
  ·refine ru 9 ?_
   refine a0f ?_
   refine ru 2 ?_
   refine fr1 ok hX rw1 (()) (trivial) (by rw [a3I (d:=default) om hr1 hE];exact kza) ?_
   exact ⟨⟨_,rfl,a2j⟩,⟨⟨_,rfl,a6P⟩,trivial⟩⟩
  refine ru 7 ?_
  exact hL1 (k+1) _ _ (by (try dsimp only);exact ⟨by omega,fun i hi=>by by_cases e:i=k;(subst e;exact hr1);exact hE i om⟩) (by (try dsimp only);omega) (a0c rfl (Nat.le_refl _) (tsr rfl (tsr rfl (tsr rfl (a0E.cons rfl (a0S om) a0E.nil)))) hsa)
 refine ru 2 ?_
 refine a0d ?_
 refine ru 8 ?_
 refine fr1 ok hX rw1 (()) (trivial) (by rw [a5T (d:=default) (fun i hi=>hE i om)];exact kza) ?_
 exact ⟨⟨_,rfl,a2j⟩,⟨⟨_,rfl,a6P⟩,trivial⟩⟩
theorem b9E (g g5:Nat) (l:List Nd) (n:Nd) (hl:l.length≤100000):a5a Tryz.prog 39 [.os 8101 g 0 l.length,.fn (.func 40) 1 (fun i=>[HV.pt 5 g5 0 0].getD i default)] [(8101,b7r g l),(5,⟨g5,1,9,46,0,fun _=>a6F n⟩)] (a0x (l.any fun o=>decide (o.name=n.name))) [(8101,b7r g l),(5,⟨g5,1,9,46,0,fun _=>a6F n⟩)]:=by
 intro c
 refine a0v Tryz.func39 rfl kr _ _ _ _ rfl 9 rfl rfl (fun X ok hX=>?_)
 refine ru 9 ?_
 refine a0m 7 (xs:=[_,_]) (pre:=[(8101,_),(5,_)]) (b8t g g5 l n hl _) ⟨rfl,⟨rfl,trivial⟩⟩ (a0h rfl (a0h rfl a0e)) rfl rfl (fun u c1 hx1=>?_)
 (try dsimp only)
 refine ru 5 ?_
 refine fr1 ok hX rw1 (()) (trivial) (by rw [←b1E];exact kza) ?_
 exact ⟨⟨_,rfl,a2j⟩,⟨⟨_,rfl,a6P⟩,trivial⟩⟩
theorem a6X {kp sh:List (Nat×HObj)} {g:Nat} {n:Mk}:OKz kp sh ⟨g,1,4,58,0,fun _=>a6n n⟩ ⟨g,1,4,58,0,fun _=>a6n n⟩:=.of fun i j hi hj=>.fz _ _ (a4q n j hj)
theorem a2f {kp sh:List (Nat×HObj)} {g:Nat} {l:List Mk}:OKz kp sh (b7q g l) (b7q g l):=.of fun i j hi hj=>.fz _ _ (a4q _ j hj)
theorem c1b (c g5:Nat) (o n:Mk):a3k Tryz.prog 43 c ([.agg 4 (a6n o)]++[.pt 7 g5 0 0]) [(7,⟨g5,1,4,58,0,fun _=>a6n n⟩)] (a5r (fun (_:Unit) _=>True) (fun _=>a0x (decide (o.name=n.name))) (fun _=>[(7,⟨g5,1,4,58,0,fun _=>a6n n⟩)])):=by
 show a3k _ _ _ [.agg 4 (a6n o),.pt 7 g5 0 0] _ _
 refine a0v Tryz.func43 rfl kr _ _ _ _ rfl 9 rfl rfl (fun X ok hX=>?_)
 refine ru 17 ?_
 refine fr1 ok hX rw1 (()) (trivial) (kza) ?_
 exact ⟨⟨_,rfl,a6X⟩,trivial⟩
theorem b8O (g g5:Nat) (l:List Mk) (n:Mk) (hl:l.length≤100000):a5a Tryz.prog 64 [.os 8102 g 0 l.length,.fn (.func 43) 1 (fun i=>[HV.pt 7 g5 0 0].getD i default)] [(8102,b7q g l),(7,⟨g5,1,4,58,0,fun _=>a6n n⟩)] (a0g (b8M (fun o=>decide (o.name=n.name)) l)) [(8102,b7q g l),(7,⟨g5,1,4,58,0,fun _=>a6n n⟩)]:=by
 intro c
 refine a0v Tryz.func64 rfl kr _ _ _ _ rfl 19 rfl rfl (fun X ok hX=>?_)
 refine ru 14 ?_
 refine a0o (α:=Nat) (fun x c=>⟨19,[(0,.v (.os 8102 g 0 l.length)),(1,.v (.fn (.func 43) 1 (fun i=>[HV.pt 7 g5 0 0].getD i default))),(7,.v (a0g l.length)),(8,.v (a0g x))],[(8102,b7q g l),(7,⟨g5,1,4,58,0,fun _=>a6n n⟩)],c⟩) (fun x=>x≤l.length∧∀ i,i < x→decide ((l.getD i default).name=n.name)=false) (fun x=>l.length - x) (0) (by exact ⟨Nat.zero_le _,fun i h=>absurd h (Nat.not_lt_zero _)⟩) (a0c rfl (Nat.le_refl _) tsa hsa) (fun k c hx NhL1 hL1=>?_)
 (try dsimp only at hx hL1 ⊢)
 obtain ⟨hk,hE⟩:=hx
 refine ru 6 ?_
 refine wdc (fun hr0 hc0=>?_) (fun hr0 hc0=>?_)
 ·refine ru 17 ?_
  refine rvl (.agg 4 (a6n (l.getD k default))) ((by simp only [Nat.zero_add];rfl)) ?_
  refine a3o 16 (xs:=[_]) (cs:=[_]) (pre:=[(7,_)]) (c1b _ g5 (l.getD k default) n) rfl rfl (fun i hi=>by first | rfl | (rcases i with _ | i <;> first | rfl | (exact absurd hi om) | (simp at hi))) ⟨rfl,trivial⟩ (a0h rfl a0e) rfl rfl (fun x1 c1 hx1=>?_)
  (try dsimp only)
  refine ru 2 ?_
  refine wdc (fun hr1 hc1=>?_) (fun hr1 hc1=>?_)
  ·refine ru 9 ?_
   refine a0f ?_
   refine ru 2 ?_
   refine fr1 ok hX rw1 (()) (trivial) (by rw [a3I (d:=default) om hr1 hE];exact kza) ?_
   exact ⟨⟨_,rfl,a2f⟩,⟨⟨_,rfl,a6X⟩,trivial⟩⟩
  refine ru 7 ?_
  exact hL1 (k+1) _ _ (by (try dsimp only);exact ⟨by omega,fun i hi=>by by_cases e:i=k;(subst e;exact hr1);exact hE i om⟩) (by (try dsimp only);omega) (a0c rfl (Nat.le_refl _) (tsr rfl (tsr rfl (tsr rfl (a0E.cons rfl (a0S om) a0E.nil)))) hsa)
 refine ru 2 ?_
 refine a0d ?_
 refine ru 8 ?_
 refine fr1 ok hX rw1 (()) (trivial) (by rw [a5T (d:=default) (fun i hi=>hE i om)];exact kza) ?_
 exact ⟨⟨_,rfl,a2f⟩,⟨⟨_,rfl,a6X⟩,trivial⟩⟩
theorem c2s (g g5:Nat) (l:List Mk) (n:Mk) (hl:l.length≤100000):a5a Tryz.prog 42 [.os 8102 g 0 l.length,.fn (.func 43) 1 (fun i=>[HV.pt 7 g5 0 0].getD i default)] [(8102,b7q g l),(7,⟨g5,1,4,58,0,fun _=>a6n n⟩)] (a0x (l.any fun o=>decide (o.name=n.name))) [(8102,b7q g l),(7,⟨g5,1,4,58,0,fun _=>a6n n⟩)]:=by
 intro c
 refine a0v Tryz.func42 rfl kr _ _ _ _ rfl 9 rfl rfl (fun X ok hX=>?_)
 refine ru 9 ?_
 refine a0m 7 (xs:=[_,_]) (pre:=[(8102,_),(7,_)]) (b8O g g5 l n hl _) ⟨rfl,⟨rfl,trivial⟩⟩ (a0h rfl (a0h rfl a0e)) rfl rfl (fun u c1 hx1=>?_)
 (try dsimp only)
 refine ru 5 ?_
 refine fr1 ok hX rw1 (()) (trivial) (by rw [←b1E];exact kza) ?_
 exact ⟨⟨_,rfl,a2f⟩,⟨⟨_,rfl,a6X⟩,trivial⟩⟩
@[reducible] def dcG (g1 n1 g2 n2:Nat):Nat→HV:=fun j=>match j with
 | 0=>.os 8101 g1 0 n1
 | _=>.os 8102 g2 0 n2
@[reducible] def dcO (g g1 n1 g2 n2:Nat):HObj:=⟨g,1,2,26,0,fun _=>dcG g1 n1 g2 n2⟩
theorem a1D {kp sh:List (Nat×HObj)} {a b:Int} (h:a=b):Kz kp sh (a0g a) (a0g b):=by subst h;exact .fz _ _ (.imm _)
theorem a4K {kp sh:List (Nat×HObj)} {g g1 n1 g2 n2:Nat} {o1 o2:HObj} (h1:hget kp 8101=some o1:=by rfl) (e1:o1.g=g1:=by rfl) (h2:hget kp 8102=some o2:=by rfl) (e2:o2.g=g2:=by rfl):OKz kp sh (dcO g g1 n1 g2 n2) (dcO g g1 n1 g2 n2):=.of fun i j hi hj=>by
 match j,hj with
 | 0,_=>exact .os _ _ _ _ _ h1 e1
 | 1,_=>exact .os _ _ _ _ _ h2 e2
theorem b5Y {kp sh:List (Nat×HObj)} {g g1 n1 n1' g2 n2 n2':Nat} {F:Nat→Nat→HV} {o1 o2:HObj} (f0:F 0 0=.os 8101 g1 0 n1) (f1:F 0 1=.os 8102 g2 0 n2) (k1:n1=n1') (k2:n2=n2') (h1:hget kp 8101=some o1:=by rfl) (e1:o1.g=g1:=by rfl) (h2:hget kp 8102=some o2:=by rfl) (e2:o2.g=g2:=by rfl):OKz kp sh ⟨g,1,2,26,0,F⟩ (dcO g g1 n1' g2 n2'):=by
 subst k1;subst k2
 exact .of fun i j hi hj=>by
  obtain rfl:i=0:=by omega
  match j,hj with
  | 0,_=>rw [f0];exact .os _ _ _ _ _ h1 e1
  | 1,_=>rw [f1];exact .os _ _ _ _ _ h2 e2
theorem a5D {α:Type} {kp sh:List (Nat×HObj)} {enc:α→Nat→HV} {d x:α} {l:List α} {g n sz ty:Nat} {F:Nat→Nat→HV} (hn:n=l.length+1) (hz:∀ (a:α) j,j < sz→Fz sh (enc a j) (enc a j)) (h0:∀ j,j < sz→F 0 j=enc x j):OKz kp sh ⟨g,n,sz,ty,0,cat l.length (fun i=>enc (l.getD i d)) F⟩ ⟨g,(l++[x]).length,sz,ty,0,fun i=>enc ((l++[x]).getD i d)⟩:=by
 subst hn
 have e:(⟨g,l.length+1,sz,ty,0,cat l.length (fun i=>enc (l.getD i d)) F⟩:HObj)=⟨g,(l++[x]).length,sz,ty,0,cat l.length (fun i=>enc (l.getD i d)) F⟩:=by simp
 rw [e]
 refine .of fun i j hi hj=>?_
 have hi:i < l.length+1:=by simpa using hi
 by_cases h:i < l.length
 ·rw [a6s h,List.getD_eq_getElem?_getD,List.getD_eq_getElem?_getD,List.getElem?_append_left h];exact .fz _ _ (hz _ j hj)
 ·obtain rfl:i=l.length:=by omega
  rw [a6x (Nat.le_refl _),Nat.sub_self,h0 j hj,List.getD_eq_getElem?_getD,List.getElem?_append_right (Nat.le_refl _),Nat.sub_self];exact .fz _ _ (hz _ j hj)
theorem c1S (c g g1 g2:Nat) (d:Dc) (l:List Bs) (hd:d.nodes.length≤24∧d.marks.length≤8) (hl:l.length≤100000) (hw:∀ w∈l,w.length≤100000) (hj:(a0U l).length≤1000000):a3k Tryz.prog 18 c [.pt 8 g 0 0,a1a l] [(8,dcO g g1 d.nodes.length g2 d.marks.length),(8101,b7r g1 d.nodes),(8102,b7q g2 d.marks)]
  (a5r (fun (q:Nat×Nat) _=>True) (fun _=>a0g (a1I d l).2) (fun q=>[(8,dcO g q.1 (a1I d l).1.nodes.length q.2 (a1I d l).1.marks.length),(8101,b7r q.1 (a1I d l).1.nodes),(8102,b7q q.2 (a1I d l).1.marks)])):=by
 have hw1:∀ i,(l.getD i []).length≤1000000:=fun i=>by
  rcases Nat.lt_or_ge i l.length with h | h
  ·have:=hw (l.getD i []) (a1X h);omega
  ·rw [List.getD_eq_getElem?_getD,List.getElem?_eq_none h];exact Nat.zero_le _
 refine a0v Tryz.func18 rfl kr _ _ _ _ rfl 95 rfl rfl (fun X ok hX=>?_)
 refine ru 15 ?_
 refine ry (a0r (l.getD 1 [])) rfl (fun hb=>rfl) ?_
 first
 | refine stg 12 (fun hb=>a0l (xs:=[_]) (a6V (l.getD 1 []) (hw1 1)) ⟨rfl,trivial⟩ ⟨(Fz.eq rfl),trivial⟩) rfl rfl rfl rfl rfl ?_
 | refine sth 12 (fun hb=>a0l (xs:=[_]) (a6V (l.getD 1 []) (hw1 1)) ⟨rfl,trivial⟩ ⟨(Fz.eq rfl),trivial⟩) rfl rfl rfl rfl rfl ?_
 refine ru 4 ?_
 refine wdc (fun hr0 hc0=>?_) (fun hr0 hc0=>?_)
 ·skip
  have hA:a1I d l=(d,2):=(by unfold a1I;rw [if_pos (by rcases hc0 with h | h;exact .inl om;exact .inr h)])
  refine ru 7 ?_
  refine fr1 ok hX rw1 ((g1,g2)) (trivial) ((a1D (by rw [hA]))) ?_
  exact ⟨⟨_,rfl,(by rw [hA];exact a4K)⟩,⟨⟨_,rfl,(by rw [hA];exact a2j)⟩,⟨⟨_,rfl,(by rw [hA];exact a2f)⟩,trivial⟩⟩⟩
 have h0:¬ (l.length < 2∨a2P (l.getD 1 [])=false):=(by have h9:=hc0;rintro (h | h);exact absurd h9.1 om;rw [h] at h9;simp at h9)
 refine ru 8 ?_
 refine rvl (a0r (l.getD 0 [])) (rfl) ?_
 refine ru 9 ?_
 refine wdc (fun hr1 hc1=>?_) (fun hr1 hc1=>?_)
 ·skip
  have hn:l.getD 0 []=a8T:=(by simpa using hr1)
  refine ru 3 ?_
  refine cll (c2w l ⟨by omega,hl⟩ hw hj) ?_
  refine ru 17 ?_
  refine wdc (fun hr2 hc2=>?_) (fun hr2 hc2=>?_)
  ·skip
   have hA:a1I d l=(d,2):=(by unfold a1I;rw [if_neg h0,if_pos hn,if_pos (by simpa using hr2)])
   refine ru 10 ?_
   refine fr1 ok hX rw1 ((g1,g2)) (trivial) ((a1D (by rw [hA]))) ?_
   exact ⟨⟨_,rfl,(by rw [hA];exact a4K)⟩,⟨⟨_,rfl,(by rw [hA];exact a2j)⟩,⟨⟨_,rfl,(by rw [hA];exact a2f)⟩,trivial⟩⟩⟩
  have hok:¬ (a2Y l).2=false:=(by simpa using hr2)
  refine ru 4 ?_
  refine rvl (a0r (a2Y l).1.name) (rfl) ?_
  refine ru 7 ?_
  first
  | refine a4c 42 3 36 false _ (fun hb=>a0y (xs:=[_,_]) (pre:=[(8101,_),(5,_)]) (b9E g1 _ d.nodes (a2Y l).1 (by omega)) ⟨rfl,⟨rfl,trivial⟩⟩) rfl rfl rfl rfl (a0h rfl (a0h rfl a0e)) rfl rfl rfl ?_
  | refine a3z 42 3 36 _ _ false _ (fun hb=>a0y (xs:=[_,_]) (pre:=[(8101,_),(5,_)]) (b9E g1 _ d.nodes (a2Y l).1 (by omega)) ⟨rfl,⟨rfl,trivial⟩⟩) rfl rfl rfl rfl (a0h rfl (a0h rfl a0e)) rfl rfl rfl ?_
  refine ru 4 ?_
  refine wdc (fun hr3 hc3=>?_) (fun hr3 hc3=>?_)
  ·skip
   have hA:a1I d l=(d,9):=(by unfold a1I;rw [if_neg h0,if_pos hn,if_neg hok,if_pos hc3])
   refine ru 10 ?_
   refine fr1 ok hX rw1 ((g1,g2)) (trivial) ((a1D (by rw [hA]))) ?_
   exact ⟨⟨_,rfl,(by rw [hA];exact a4K)⟩,⟨⟨_,rfl,(by rw [hA];exact a2j)⟩,⟨⟨_,rfl,(by rw [hA];exact a2f)⟩,trivial⟩⟩⟩
  have hn3:¬ ((a2Y l).1.name=a4Z∨(d.nodes.any fun o=>decide (o.name=(a2Y l).1.name))=true):=(by rintro (h | h);exact hc3.1 h;rw [h] at hc3;cases hc3.2)
  refine ru 11 ?_
  refine wdc (fun hr4 hc4=>?_) (fun hr4 hc4=>?_)
  ·skip
   have hA:a1I d l=(d,4):=(by unfold a1I;rw [if_neg h0,if_pos hn,if_neg hok,if_neg hn3,if_pos om])
   refine ru 10 ?_
   refine fr1 ok hX rw1 ((g1,g2)) (trivial) ((a1D (by rw [hA]))) ?_
   exact ⟨⟨_,rfl,(by rw [hA];exact a4K)⟩,⟨⟨_,rfl,(by rw [hA];exact a2j)⟩,⟨⟨_,rfl,(by rw [hA];exact a2f)⟩,trivial⟩⟩⟩
  have hA:a1I d l=(⟨d.nodes++[(a2Y l).1],d.marks⟩,0):=(by unfold a1I;rw [if_neg h0,if_pos hn,if_neg hok,if_neg hn3,if_neg om])
  refine ru 10 ?_
  refine a2b 57 (a0b (id:=57) (hs:=[_]) ei_23.h omx rfl omx ⟨rfl,rfl,rfl,rfl,trivial⟩) rfl rfl a0e rfl rfl (k':=7) rfl ?_
  first
  | refine a2b 58 (a0a ei_23.h (by first | exact Nat.le_of_ble_eq_true rfl | omega | (dsimp only;omega) | (simp <;> omega)) rfl (by first | exact Nat.le_of_ble_eq_true rfl | omega | (dsimp only;omega) | (simp <;> omega)) (by first | exact Nat.le_of_ble_eq_true rfl | omega | (dsimp only;omega) | (simp <;> omega)) (a0s rfl (by first | exact Nat.le_of_ble_eq_true rfl | omega | (dsimp only;omega) | (simp <;> omega))) (by first | exact Nat.le_of_ble_eq_true rfl | omega | (dsimp only;omega) | (simp <;> omega)) rfl) rfl rfl (a0h rfl (a0B rfl)) rfl rfl (k':=8) rfl ?_
  | refine a2b 58 (a0a ei_23.h (by first | exact Nat.le_of_ble_eq_true rfl | omega | (dsimp only;omega) | (simp <;> omega)) rfl (by first | exact Nat.le_of_ble_eq_true rfl | omega | (dsimp only;omega) | (simp <;> omega)) (by first | exact Nat.le_of_ble_eq_true rfl | omega | (dsimp only;omega) | (simp <;> omega)) (a0D rfl (by first | exact Nat.le_of_ble_eq_true rfl | omega | (dsimp only;omega) | (simp <;> omega))) (by first | exact Nat.le_of_ble_eq_true rfl | omega | (dsimp only;omega) | (simp <;> omega)) rfl) rfl rfl (a0h rfl (a0B rfl)) rfl rfl (k':=8) rfl ?_
  | refine a2b 58 (a0a ei_23.h (by first | exact Nat.le_of_ble_eq_true rfl | omega | (dsimp only;omega) | (simp <;> omega)) rfl (by first | exact Nat.le_of_ble_eq_true rfl | omega | (dsimp only;omega) | (simp <;> omega)) (by first | exact Nat.le_of_ble_eq_true rfl | omega | (dsimp only;omega) | (simp <;> omega)) (a0C rfl) (by first | exact Nat.le_of_ble_eq_true rfl | omega | (dsimp only;omega) | (simp <;> omega)) rfl) rfl rfl (a0h rfl a0e) rfl rfl (k':=8) rfl ?_
  | refine a2b 58 (a0a ei_23.h (by first | exact Nat.le_of_ble_eq_true rfl | omega | (dsimp only;omega) | (simp <;> omega)) rfl (by first | exact Nat.le_of_ble_eq_true rfl | omega | (dsimp only;omega) | (simp <;> omega)) (by first | exact Nat.le_of_ble_eq_true rfl | omega | (dsimp only;omega) | (simp <;> omega)) (a0u 9 (fun _ _=>default) rfl) (by first | exact Nat.le_of_ble_eq_true rfl | omega | (dsimp only;omega) | (simp <;> omega)) rfl) rfl rfl (a0h rfl a0e) rfl rfl (k':=8) rfl ?_
  refine ru 12 ?_
  refine fr1 ok hX rw1 ((c+2+7,g2)) (trivial) ((a1D (by rw [hA]))) ?_
  exact ⟨⟨_,rfl,(by rw [hA];exact b5Y rfl rfl (by simp) rfl)⟩,⟨⟨_,rfl,(by rw [hA];exact a5D (by simp) a4e (by exact q9 rfl rfl rfl rfl rfl rfl rfl rfl rfl))⟩,⟨⟨_,rfl,(by rw [hA];exact a2f)⟩,trivial⟩⟩⟩
 have hn:l.getD 0 []≠a8T:=(by simpa using hr1)
 refine ru 6 ?_
 refine wdc (fun hr5 hc5=>?_) (fun hr5 hc5=>?_)
 ·skip
  have hm:l.getD 0 []=b1Y:=(by simpa using hr5)
  refine ru 3 ?_
  refine cll (c1Q l ⟨by omega,hl⟩ hw) ?_
  refine ru 17 ?_
  refine wdc (fun hr6 hc6=>?_) (fun hr6 hc6=>?_)
  ·skip
   have hA:a1I d l=(d,2):=(by unfold a1I;rw [if_neg h0,if_neg hn,if_pos hm,if_pos (by simpa using hr6)])
   refine ru 10 ?_
   refine fr1 ok hX rw1 ((g1,g2)) (trivial) ((a1D (by rw [hA]))) ?_
   exact ⟨⟨_,rfl,(by rw [hA];exact a4K)⟩,⟨⟨_,rfl,(by rw [hA];exact a2j)⟩,⟨⟨_,rfl,(by rw [hA];exact a2f)⟩,trivial⟩⟩⟩
  have hok:¬ (a4G l).2=false:=(by simpa using hr6)
  refine ru 7 ?_
  refine a0m 77 (xs:=[_,_]) (pre:=[(8102,_),(7,_)]) (c2s g2 _ d.marks (a4G l).1 om _) ⟨rfl,⟨rfl,trivial⟩⟩ (a0h rfl (a0h rfl a0e)) rfl rfl (fun u c1 hx1=>?_)
  (try dsimp only)
  refine ru 3 ?_
  refine wdc (fun hr7 hc7=>?_) (fun hr7 hc7=>?_)
  ·skip
   have hA:a1I d l=(d,9):=(by unfold a1I;rw [if_neg h0,if_neg hn,if_pos hm,if_neg hok,if_pos hc7])
   refine ru 10 ?_
   refine fr1 ok hX rw1 ((g1,g2)) (trivial) ((a1D (by rw [hA]))) ?_
   exact ⟨⟨_,rfl,(by rw [hA];exact a4K)⟩,⟨⟨_,rfl,(by rw [hA];exact a2j)⟩,⟨⟨_,rfl,(by rw [hA];exact a2f)⟩,trivial⟩⟩⟩
  have hn7:¬ (d.marks.any fun o=>decide (o.name=(a4G l).1.name))=true:=(by rw [hc7];simp)
  refine ru 11 ?_
  refine wdc (fun hr8 hc8=>?_) (fun hr8 hc8=>?_)
  ·skip
   have hA:a1I d l=(d,4):=(by unfold a1I;rw [if_neg h0,if_neg hn,if_pos hm,if_neg hok,if_neg hn7,if_pos om])
   refine ru 10 ?_
   refine fr1 ok hX rw1 ((g1,g2)) (trivial) ((a1D (by rw [hA]))) ?_
   exact ⟨⟨_,rfl,(by rw [hA];exact a4K)⟩,⟨⟨_,rfl,(by rw [hA];exact a2j)⟩,⟨⟨_,rfl,(by rw [hA];exact a2f)⟩,trivial⟩⟩⟩
  have hA:a1I d l=(⟨d.nodes,d.marks++[(a4G l).1]⟩,0):=(by unfold a1I;rw [if_neg h0,if_neg hn,if_pos hm,if_neg hok,if_neg hn7,if_neg om])
  refine ru 10 ?_
  refine a2b 91 (a0b (id:=91) (hs:=[_]) ei_24.h omx rfl omx ⟨rfl,rfl,rfl,rfl,trivial⟩) rfl rfl a0e rfl rfl (k':=7) rfl ?_
  first
  | refine a2b 92 (a0a ei_24.h (by first | exact Nat.le_of_ble_eq_true rfl | omega | (dsimp only;omega) | (simp <;> omega)) rfl (by first | exact Nat.le_of_ble_eq_true rfl | omega | (dsimp only;omega) | (simp <;> omega)) (by first | exact Nat.le_of_ble_eq_true rfl | omega | (dsimp only;omega) | (simp <;> omega)) (a0s rfl (by first | exact Nat.le_of_ble_eq_true rfl | omega | (dsimp only;omega) | (simp <;> omega))) (by first | exact Nat.le_of_ble_eq_true rfl | omega | (dsimp only;omega) | (simp <;> omega)) rfl) rfl rfl (a0h rfl (a0B rfl)) rfl rfl (k':=8) rfl ?_
  | refine a2b 92 (a0a ei_24.h (by first | exact Nat.le_of_ble_eq_true rfl | omega | (dsimp only;omega) | (simp <;> omega)) rfl (by first | exact Nat.le_of_ble_eq_true rfl | omega | (dsimp only;omega) | (simp <;> omega)) (by first | exact Nat.le_of_ble_eq_true rfl | omega | (dsimp only;omega) | (simp <;> omega)) (a0D rfl (by first | exact Nat.le_of_ble_eq_true rfl | omega | (dsimp only;omega) | (simp <;> omega))) (by first | exact Nat.le_of_ble_eq_true rfl | omega | (dsimp only;omega) | (simp <;> omega)) rfl) rfl rfl (a0h rfl (a0B rfl)) rfl rfl (k':=8) rfl ?_
  | refine a2b 92 (a0a ei_24.h (by first | exact Nat.le_of_ble_eq_true rfl | omega | (dsimp only;omega) | (simp <;> omega)) rfl (by first | exact Nat.le_of_ble_eq_true rfl | omega | (dsimp only;omega) | (simp <;> omega)) (by first | exact Nat.le_of_ble_eq_true rfl | omega | (dsimp only;omega) | (simp <;> omega)) (a0C rfl) (by first | exact Nat.le_of_ble_eq_true rfl | omega | (dsimp only;omega) | (simp <;> omega)) rfl) rfl rfl (a0h rfl a0e) rfl rfl (k':=8) rfl ?_
  | refine a2b 92 (a0a ei_24.h (by first | exact Nat.le_of_ble_eq_true rfl | omega | (dsimp only;omega) | (simp <;> omega)) rfl (by first | exact Nat.le_of_ble_eq_true rfl | omega | (dsimp only;omega) | (simp <;> omega)) (by first | exact Nat.le_of_ble_eq_true rfl | omega | (dsimp only;omega) | (simp <;> omega)) (a0u 4 (fun _ _=>default) rfl) (by first | exact Nat.le_of_ble_eq_true rfl | omega | (dsimp only;omega) | (simp <;> omega)) rfl) rfl rfl (a0h rfl a0e) rfl rfl (k':=8) rfl ?_
  refine ru 12 ?_
  refine fr1 ok hX rw1 ((g1,c1+7)) (trivial) ((a1D (by rw [hA]))) ?_
  exact ⟨⟨_,rfl,(by rw [hA];exact b5Y rfl rfl rfl (by simp))⟩,⟨⟨_,rfl,(by rw [hA];exact a2j)⟩,⟨⟨_,rfl,(by rw [hA];exact a5D (by simp) a4q (by exact qm4 rfl rfl rfl rfl))⟩,trivial⟩⟩⟩
 have hA:a1I d l=(d,2):=(by unfold a1I;rw [if_neg h0,if_neg hn,if_neg (by simpa using hr5)])
 refine ru 8 ?_
 refine fr1 ok hX rw1 ((g1,g2)) (trivial) ((a1D (by rw [hA]))) ?_
 exact ⟨⟨_,rfl,(by rw [hA];exact a4K)⟩,⟨⟨_,rfl,(by rw [hA];exact a2j)⟩,⟨⟨_,rfl,(by rw [hA];exact a2f)⟩,trivial⟩⟩⟩
@[reducible] def c3V (l:List Nd):HV:=.sl 9 l.length (b4f l)
@[reducible] def c3X (l:List Mk):HV:=.sl 4 l.length (b4F l)
@[reducible] def dcF (d:Dc):Nat→HV:=fun j=>match j with
 | 0=>c3V d.nodes
 | _=>c3X d.marks
@[reducible] def dcV (d:Dc):HV:=.agg 2 (dcF d)
@[reducible] def c3J (x:Dc×Int×Int):HV:=t3 (dcV x.1) (a0g x.2.1) (a0g x.2.2)
theorem c2J {sh:List (Nat×HObj)} (l:List Nd):Fz sh (c3V l) (c3V l):=.sl _ _ _ _ fun i j _ hj=>a4e _ j hj
theorem c1w {sh:List (Nat×HObj)} (l:List Mk):Fz sh (c3X l) (c3X l):=.sl _ _ _ _ fun i j _ hj=>a4q _ j hj
theorem c0L {sh:List (Nat×HObj)} (d:Dc):Fz sh (dcV d) (dcV d):=.agg _ _ _ fun j hj=>by
 match j,hj with
 | 0,_=>exact c2J _
 | 1,_=>exact c1w _
@[reducible] def zDc:Nat→HV:=fun _=>.imm (.slice none 0 0)
theorem a8K {sh:List (Nat×HObj)} {f:Nat→HV} (h0:f 0=.imm (.slice none 0 0)) (h1:f 1=.imm (.slice none 0 0)):Fz sh (.agg 2 f) (dcV Dc.zero):=.agg _ _ _ fun j hj=>by
 match j,hj with
 | 0,_=>rw [h0];exact .nil _ _ _ (by decide) _
 | 1,_=>rw [h1];exact .nil _ _ _ (by decide) _
theorem a8H (s:Bs) (r:List Bs) (i:Nat) (d:Dc):a3m (s::r) i d=match a2a s with
  | none=>(Dc.zero,((i+1:Nat):Int),2)
  | some l=>if l=[] then a3m r (i+1) d else if (a1I d l).2=0 then a3m r (i+1) (a1I d l).1 else (Dc.zero,((i+1:Nat):Int),(a1I d l).2):=rfl
theorem b2H (s:Bs) (hs:s.length≤1000000):a0t Tryz.prog 7 [a0r s] (c3J (a2c s)):=by
 refine a0n Tryz.func7 rfl (by kernel_rfl) _ _ _ rfl 53 rfl rfl (fun w F=>?_)
 refine ru 10 ?_
 refine cll (c0I s hs) ?_
 refine ru 16 ?_
 refine wdc (fun hr0 hc0=>?_) (fun hr0 hc0=>?_)
 ·skip
  have hD:a2c s=(Dc.zero,((a1A s).2.1:Int),(a1A s).2.2):=(by unfold a2c;rw [if_pos (by simpa using hr0)])
  refine ru 12 ?_
  refine rt3 ?_
  rw [hD];exact a1q (a8K rfl rfl) (.imm _) (.imm _)
 have he0:(a1A s).2.2=0:=(by simpa using hr0);have hD:a2c s=a3m (a1A s).1 0 Dc.zero:=(by unfold a2c;rw [if_neg (by simpa using hr0)]);obtain ⟨hL1,hL2,hL3⟩:=a7C he0;obtain ⟨L_,hL_⟩:∃ L_,(a1A s).1=L_:=⟨_,rfl⟩;rw [hL_] at hD hL2 hL3
 refine ru 11 ?_
 refine rvl (a1a L_) ((by show a1a (a1A s).1=_;rw [hL_])) ?_
 refine ru 5 ?_
 refine (a1l 8 0 8101 9 46 (b4f []) (fun _ j=>match j with | 0=>.os 8101 2 0 0 | _=>.imm (.slice none 0 0)) rfl rfl (fun j hj=>by match j,hj with | 0,_=>exact .inl ⟨rfl,rfl⟩ | 1,_=>exact .inr rfl) (by decide) (by decide) (c':=3) rfl).wp ?_;refine (a1l 8 1 8102 4 58 (b4F []) (fun _=>dcG 2 0 3 0) rfl rfl (fun j hj=>by match j,hj with | 0,_=>exact .inr rfl | 1,_=>exact .inl ⟨rfl,rfl⟩) (by decide) (by decide) (c':=4) rfl).wp ?_
 refine a0o (α:=Nat×Dc×Nat×Nat) (fun x c=>⟨53,[(2,.v (.pt 2 0 0 0)),(8,.v (.pt 8 1 0 0)),(24,.v (a1a L_)),(25,.v (a0g (L_.length:Int))),(26,.v (a0g (x.1:Int)))],[(2,⟨0,1,2,26,0,fun _=>zDc⟩),(8,dcO 1 x.2.2.1 x.2.1.nodes.length x.2.2.2 x.2.1.marks.length),(8101,b7r x.2.2.1 x.2.1.nodes),(8102,b7q x.2.2.2 x.2.1.marks)],c⟩) (fun x=>x.1≤L_.length∧(x.2.1.nodes.length≤24∧x.2.1.marks.length≤8)∧a3m (L_.drop x.1) x.1 x.2.1=a2c s) (fun x=>L_.length - x.1) ((0,Dc.zero,2,3)) (by exact ⟨Nat.zero_le _,⟨Nat.zero_le _,Nat.zero_le _⟩,hD.symm⟩) (a0c rfl (Nat.le_refl _) (tsr rfl (tsr rfl (tsr rfl (tsr rfl (tsr rfl a0E.nil))))) (a0j.cons rfl (a2J (.refl _) (.refl _)) (hsr rfl (hsr rfl (hsr rfl a0j.nil))))) (fun x c hx NhL1 hL1=>?_)
 revert hx hL1;obtain ⟨i,d,g1,g2⟩:=x;intro hx hL1;dsimp only at hx hL1 ⊢
 obtain ⟨ha1,ha2,ha3⟩:=hx
 refine ru 6 ?_
 refine wdc (fun hr1 hc1=>?_) (fun hr1 hc1=>?_)
 ·skip
  have hil:i < L_.length:=(by omega);obtain ⟨v_,hv_⟩:∃ v_,L_.getD i []=v_:=⟨_,rfl⟩;have hd_:L_.drop i=v_::L_.drop (i+1):=(by rw [List.drop_eq_getElem_cons hil,←hv_,List.getD_eq_getElem?_getD,List.getElem?_eq_getElem hil];rfl);have hvl:v_.length≤65536:=(by have:=hL3 v_ (by rw [←hv_];exact a1X hil);omega);rw [hd_,a8H] at ha3;obtain ⟨o_,ho_⟩:∃ o_,a2a v_=o_:=⟨_,rfl⟩;have hsp:a0t Tryz.prog 17 [a0r v_] (b3E o_):=(by rw [←ho_];exact b6X v_ (by omega));rw [ho_] at ha3
  refine ru 9 ?_
  refine rvl (a0r v_) ((by rw [←hv_];show a0r (L_.getD (((i:Nat):Int)).toNat [])=_;rw [show ((i:Nat):Int).toNat=i by omega])) ?_
  refine ru 5 ?_
  rcases o_ with _ | wl
  ·refine ru 2 ?_
   refine cll (hsp) ?_
   refine ru 19 ?_
   refine wdc (fun hr2 hc2=>?_) (fun hr2 hc2=>?_)
   ·skip
    exfalso;simp at hr2
   refine ru 8 ?_
   refine wdc (fun hr3 hc3=>?_) (fun hr3 hc3=>?_)
   ·skip
    have ha4:(Dc.zero,((i+1:Nat):Int),(2:Int))=a2c s:=ha3
    refine ru 14 ?_
    refine a0f ?_
    refine ru 2 ?_
    refine rt3 ?_
    rw [←ha4];exact a1q (a8K rfl rfl) (Fz.eq (congrArg a0g (show ((i:Nat):Int)+1=((i+1:Nat):Int) from by omega))) (.imm _)
   exfalso;simp at hr3
  ·refine ru 2 ?_
   refine cll (hsp) ?_
   refine ru 19 ?_
   refine wdc (fun hr2 hc2=>?_) (fun hr2 hc2=>?_)
   ·skip
    have hne:wl≠[]:=(by rintro rfl;simp at hr2);have ha5:(if wl=[] then a3m (L_.drop (i+1)) (i+1) d else if (a1I d wl).2=0 then a3m (L_.drop (i+1)) (i+1) (a1I d wl).1 else (Dc.zero,((i+1:Nat):Int),(a1I d wl).2))=a2c s:=ha3;rw [if_neg hne] at ha5;obtain ⟨hW1,hW2⟩:=a7v ho_;have hWj:=a7h ho_
    refine ru 2 ?_
    refine a0m 44 (xs:=[_,_]) (pre:=[(8,_),(8101,_),(8102,_)]) (c1S _ 1 g1 g2 d wl ha2 (by omega) (fun w hw=>by have:=hW2 w hw;omega) (by rw [hWj];omega)) ⟨rfl,⟨rfl,trivial⟩⟩ (a0h rfl (a0h rfl (a0h rfl a0e))) rfl rfl (fun x1 c1 hx1=>?_)
    obtain ⟨q1,q2⟩:=x1
    (try dsimp only)
    refine ru 9 ?_
    refine wdc (fun hr3 hc3=>?_) (fun hr3 hc3=>?_)
    ·skip
     have ha4:(Dc.zero,((i+1:Nat):Int),(a1I d wl).2)=a2c s:=(by rw [if_neg (by simpa using hr3)] at ha5;exact ha5)
     refine ru 14 ?_
     refine a0f ?_
     refine ru 2 ?_
     refine rt3 ?_
     rw [←ha4];exact a1q (a8K rfl rfl) (Fz.eq (congrArg a0g (show ((i:Nat):Int)+1=((i+1:Nat):Int) from by omega))) (.imm _)
    have ha4:a3m (L_.drop (i+1)) (i+1) (a1I d wl).1=a2c s:=(by rw [if_pos (by simpa using hr3)] at ha5;exact ha5)
    refine ru 7 ?_
    exact hL1 ((i+1,(a1I d wl).1,q1,q2)) _ _ (by (try dsimp only);exact ⟨by omega,a8W ha2,ha4⟩) (by (try dsimp only);omega) (a0c rfl (Nat.le_refl _) (tsr rfl (tsr rfl (tsr rfl (tsr rfl (a0E.cons rfl (a0S (by omega)) a0E.nil))))) (hsr rfl (hsr rfl (hsr rfl (hsr rfl a0j.nil)))))
   have hwe:wl=[]:=(by have h9:=hr2;simp at h9;first | exact h9 | exact List.eq_nil_of_length_eq_zero (by omega));have ha4:a3m (L_.drop (i+1)) (i+1) d=a2c s:=(by subst hwe;exact ha3)
   refine ru 8 ?_
   refine wdc (fun hr3 hc3=>?_) (fun hr3 hc3=>?_)
   ·skip
    exfalso;simp at hr3
   refine ru 7 ?_
   exact hL1 ((i+1,d,g1,g2)) _ _ (by (try dsimp only);exact ⟨by omega,ha2,ha4⟩) (by (try dsimp only);omega) (a0c rfl (Nat.le_refl _) (tsr rfl (tsr rfl (tsr rfl (tsr rfl (a0E.cons rfl (a0S (by omega)) a0E.nil))))) (hsr rfl (hsr rfl (hsr rfl (hsr rfl a0j.nil)))))
 rw [List.drop_of_length_le (show L_.length≤i by omega)] at ha3
 refine ru 2 ?_
 refine a0d ?_
 refine ru 11 ?_
 refine a4A rfl (a0N rfl rfl ty_26.h (fun h=>by first | rfl | cases h) rfl rfl) (a0k rfl) (a0k rfl) [(8101,_),(8102,_)] rfl (a0h rfl (a0h rfl a0e)) ?_
 rw [←ha3];exact a1q (.agg _ _ _ (fun j hj=>by match j,hj with | 0,_=>exact a1z (l:=d.nodes) (enc:=a6F) (d:=default) (List.mem_cons_self ..) rfl rfl (Nat.le_refl _) (fun i j hi hj=>a4e _ j hj) | 1,_=>exact a1z (l:=d.marks) (enc:=a6n) (d:=default) (List.mem_cons_of_mem _ (List.mem_cons_self ..)) rfl rfl (Nat.le_refl _) (fun i j hi hj=>a4q _ j hj))) (.imm _) (.imm _)
theorem b5K (s:Bs) (hs:s.length≤1000000) (hb:200 < s.length):a0t Tryz.prog 92 [a0r s] (c3o none):=by
 refine a0n Tryz.func92 rfl kr _ _ _ rfl 64 rfl rfl (fun w F=>?_)
 refine ru 19 ?_
 refine wdc (fun hr0 hc0=>?_) (fun hr0 hc0=>?_)
 ·refine ru 8 ?_
  refine rt2 ?_
  exact a1r (.imm _) (.imm _)
 exfalso;omega
theorem b6M (s:Bs) (hs:s.length≤1000000):a0t Tryz.prog 92 [a0r s] (c3o (a2U s)):=by
 rcases Nat.lt_or_ge 200 s.length with h | h
 ·have hn:a2U s=none:=by rw [←b5H];unfold a7V;rw [if_pos (by omega)]
  rw [hn];exact b5K s hs h
 ·exact b7v s h
theorem b2W (s:Bs) (hs:s.length≤1000000):a0t Tryz.prog 67 [a0r s] (a0g ((a1v s).getD (-1))):=by
 refine a0n Tryz.func67 rfl kr _ _ _ rfl 21 rfl rfl (fun w F=>?_)
 refine ru 8 ?_
 refine cll (b6M s hs) ?_
 refine ru 22 ?_
 refine wdc (fun hr0 hc0=>?_) (fun hr0 hc0=>?_)
 ·refine ru 7 ?_
  refine rt1 ?_
  exact b0D (by symm;unfold a1v;cases h:a2U s with | none=>rfl | some n=>rw [h] at hr0;simp at hr0;show ((if 0≤n∧n≤999 then some n else none).getD (-1):Int)=-1;rw [if_neg om];rfl)
 refine ru 9 ?_
 refine rt1 ?_
 exact b0D (by symm;unfold a1v;cases h:a2U s with | none=>rw [h] at hr0;simp at hr0 | some n=>rw [h] at hr0;simp at hr0;show ((if 0≤n∧n≤999 then some n else none).getD (-1):Int)=n;rw [if_pos om];rfl)
theorem c3v {s:Bs} {k:Nat} (h:k < s.length):bz s k=((s.getD k 0).toNat:Int):=by unfold bz;rw [if_pos h]
theorem b8P {s:Bs} {k:Nat} (h:k < s.length) (ha:alnumZ (bz s k)=false∨k=0∧smallZ (bz s 0)=false):b2B s=false:=by
 unfold b2B
 rcases ha with ha | ⟨_,ha⟩
 ·rw [show ((List.range s.length).all fun j=>alnumZ (bz s j))=false from by rw [List.all_eq_false];exact ⟨k,List.mem_range.2 h,by simp [ha]⟩];simp
 ·simp [ha]
theorem b5e {s:Bs} (h:∀ j,j < s.length→alnumZ (bz s j)=true) (h0:0 < s.length→smallZ (bz s 0)=true):b2B s=(decide (0 < s.length)&&decide (s.length < 13)):=by
 unfold b2B
 rw [show ((List.range s.length).all fun j=>alnumZ (bz s j))=true from by rw [List.all_eq_true];exact fun j hj=>h j (List.mem_range.1 hj)]
 by_cases h1:0 < s.length
 ·simp [h0 h1,h1]
 ·simp [h1]
theorem a9K (s:Bs) (hs:s.length≤1000000):a0t Tryz.prog 45 [a0r s] (a0x (a2P s)):=by
 rw [←b7D]
 refine a0n Tryz.func45 rfl kr _ _ _ rfl 47 rfl rfl (fun w F=>?_)
 refine ru 12 ?_
 refine a0o (α:=Nat) (fun x c=>⟨47,[(0,.v (a0r s)),(3,.v (a0g x))],[],c⟩) (fun x=>x≤s.length∧(∀ j,j < x→alnumZ (bz s j)=true)∧(0 < x→smallZ (bz s 0)=true)) (fun x=>s.length - x) (0) (by exact ⟨Nat.zero_le _,(fun j h=>absurd h (Nat.not_lt_zero _)),fun h=>absurd h (Nat.not_lt_zero _)⟩) (a0c rfl (Nat.le_refl _) tsa a0j.nil) (fun k c hx NhL1 hL1=>?_)
 (try dsimp only at hx hL1 ⊢)
 obtain ⟨hk,ha,h0⟩:=hx
 refine ru 9 ?_
 refine wdc (fun hr0 hc0=>?_) (fun hr0 hc0=>?_)
 ·skip
  have hbz:=c3v (s:=s) (k:=k) om
  refine ru 41 ?_
  refine wdc (fun hr1 hc1=>?_) (fun hr1 hc1=>?_)
  ·refine ru 8 ?_
   refine a0f ?_
   refine ru 2 ?_
   refine rt1 ?_
   exact a1m (by symm;refine b8P (k:=k) om ?_;unfold alnumZ smallZ a0Q;simp at hr1;rw [hbz];rcases Nat.eq_zero_or_pos k with hz | hz;(right;refine ⟨hz,?_⟩;subst hz;rw [hbz];simp;omega);(left;simp;omega))
  refine ru 8 ?_
  exact hL1 (k+1) _ _ (by (try dsimp only);exact ⟨by omega,(fun j hj=>by rcases Nat.lt_or_ge j k with h | h;exact ha j h;have hjk:j=k:=om;subst hjk;rw [hbz];unfold alnumZ smallZ a0Q;simp at hr1 ⊢;omega),(fun _=>by rcases Nat.eq_zero_or_pos k with hz | hz;(subst hz;rw [hbz];unfold smallZ;simp at hr1 ⊢;omega);exact h0 hz)⟩) (by (try dsimp only);omega) (a0c rfl (Nat.le_refl _) tsa a0j.nil)
 refine ru 2 ?_
 refine a0d ?_
 refine ru 16 ?_
 refine rt1 ?_
 exact a1m (by rw [b5e (fun j hj=>ha j om) (fun h=>h0 om)];rw [Bool.eq_iff_iff];simp only [Bool.and_eq_true,decide_eq_true_eq];omega)
theorem a9F (g:Nat) (l:List Bs) (s:Bs) (hl:l.length≤1000000):a5a Tryz.prog 66 [.os 8001 g 0 l.length,a0r s] [(8001,a5y g l)] (a0x (decide (s∈l))) [(8001,a5y g l)]:=by
 intro c
 refine a0v Tryz.func66 rfl kr _ _ _ _ rfl 18 rfl rfl (fun X ok hX=>?_)
 refine ru 12 ?_
 refine a0o (α:=Nat) (fun x c=>⟨18,[(0,.v (.os 8001 g 0 l.length)),(1,.v (a0r s)),(5,.v (a0g x))],[(8001,a5y g l)],c⟩) (fun x=>x≤l.length∧∀ j,j < x→l.getD j []≠s) (fun x=>l.length - x) (0) (by exact ⟨Nat.zero_le _,fun j h=>absurd h (Nat.not_lt_zero _)⟩) (a0c rfl (Nat.le_refl _) tsa hsa) (fun k c hx NhL1 hL1=>?_)
 (try dsimp only at hx hL1 ⊢)
 obtain ⟨hk,hno⟩:=hx
 refine ru 9 ?_
 refine wdc (fun hr0 hc0=>?_) (fun hr0 hc0=>?_)
 ·refine ru 14 ?_
  refine wdc (fun hr1 hc1=>?_) (fun hr1 hc1=>?_)
  ·refine ru 8 ?_
   refine a0f ?_
   refine ru 2 ?_
   refine fr1 ok hX rw1 (()) (trivial) (by rw [decide_eq_true (show s∈l from by have h9:l.getD k []=s:=(by simpa using hr1);rw [←h9];exact a1X om)];exact kza) ?_
   exact ⟨⟨_,rfl,a3b⟩,trivial⟩
  refine ru 8 ?_
  exact hL1 (k+1) _ _ (by (try dsimp only);exact ⟨by omega,fun j hj=>by rcases Nat.lt_or_ge j k with h | h;exact hno j h;have hjk:j=k:=om;subst hjk;simpa using hr1⟩) (by (try dsimp only);omega) (a0c rfl (Nat.le_refl _) tsa hsa)
 refine ru 2 ?_
 refine a0d ?_
 refine ru 8 ?_
 refine fr1 ok hX rw1 (()) (trivial) (by rw [decide_eq_false (show ¬ s∈l from fun h=>by obtain ⟨j,hj,h9⟩:=List.getElem_of_mem h;exact hno j om (by rw [List.getD_eq_getElem?_getD,List.getElem?_eq_getElem hj];exact h9))];exact kza) ?_
 exact ⟨⟨_,rfl,a3b⟩,trivial⟩
theorem b1N (g:Nat) (l:List Bs) (s:Bs) (hl:l.length≤1000000):a5a Tryz.prog 66 [.os 8002 g 0 l.length,a0r s] [(8002,a5y g l)] (a0x (decide (s∈l))) [(8002,a5y g l)]:=by
 intro c
 refine a0v Tryz.func66 rfl kr _ _ _ _ rfl 18 rfl rfl (fun X ok hX=>?_)
 refine ru 12 ?_
 refine a0o (α:=Nat) (fun x c=>⟨18,[(0,.v (.os 8002 g 0 l.length)),(1,.v (a0r s)),(5,.v (a0g x))],[(8002,a5y g l)],c⟩) (fun x=>x≤l.length∧∀ j,j < x→l.getD j []≠s) (fun x=>l.length - x) (0) (by exact ⟨Nat.zero_le _,fun j h=>absurd h (Nat.not_lt_zero _)⟩) (a0c rfl (Nat.le_refl _) tsa hsa) (fun k c hx NhL1 hL1=>?_)
 (try dsimp only at hx hL1 ⊢)
 obtain ⟨hk,hno⟩:=hx
 refine ru 9 ?_
 refine wdc (fun hr0 hc0=>?_) (fun hr0 hc0=>?_)
 ·refine ru 14 ?_
  refine wdc (fun hr1 hc1=>?_) (fun hr1 hc1=>?_)
  ·refine ru 8 ?_
   refine a0f ?_
   refine ru 2 ?_
   refine fr1 ok hX rw1 (()) (trivial) (by rw [decide_eq_true (show s∈l from by have h9:l.getD k []=s:=(by simpa using hr1);rw [←h9];exact a1X om)];exact kza) ?_
   exact ⟨⟨_,rfl,a3b⟩,trivial⟩
  refine ru 8 ?_
  exact hL1 (k+1) _ _ (by (try dsimp only);exact ⟨by omega,fun j hj=>by rcases Nat.lt_or_ge j k with h | h;exact hno j h;have hjk:j=k:=om;subst hjk;simpa using hr1⟩) (by (try dsimp only);omega) (a0c rfl (Nat.le_refl _) tsa hsa)
 refine ru 2 ?_
 refine a0d ?_
 refine ru 8 ?_
 refine fr1 ok hX rw1 (()) (trivial) (by rw [decide_eq_false (show ¬ s∈l from fun h=>by obtain ⟨j,hj,h9⟩:=List.getElem_of_mem h;exact hno j om (by rw [List.getD_eq_getElem?_getD,List.getElem?_eq_getElem hj];exact h9))];exact kza) ?_
 exact ⟨⟨_,rfl,a3b⟩,trivial⟩
theorem b7l {c:UInt8}:∀ {s:Bs} {k:Nat},k < s.length→(∀ j,j < k→s.getD j 0≠c)→s.getD k 0=c→a3R c s=(s.take k,s.drop (k+1),true)
  | [],k,h,_,_=>absurd h (Nat.not_lt_zero _)
  | b :: l, 0, _, _, h => by
    have h:b=c:=h
    show (if b=c then _ else _)=_
    rw [if_pos h];rfl
  | b :: l, k + 1, h, hn, hc => by
    have hb:¬ b=c:=hn 0 (Nat.succ_pos _)
    show (if b=c then _ else _)=_
    rw [if_neg hb,b7l (s:=l) (k:=k) (Nat.lt_of_succ_lt_succ h) (fun j hj=>hn (j+1) (by omega)) hc];rfl
theorem b7g {c:UInt8}:∀ {s:Bs},(∀ j,j < s.length→s.getD j 0≠c)→a3R c s=(s,[],false)
  | [],_=>rfl
  | b :: l, h => by
    have hb:¬ b=c:=h 0 (Nat.succ_pos _)
    show (if b=c then _ else _)=_
    rw [if_neg hb,b7g (s:=l) (fun j hj=>h (j+1) (Nat.succ_lt_succ hj))]
theorem b9W {c:UInt8} {l:Bs} {f p:Nat} (hf:f≤p) (hp:p < l.length) (h:∀ b∈(l.drop f).take (p - f),b≠c) (hb:l.getD p 0≠c):∀ b∈(l.drop f).take (p+1 - f),b≠c:=by
 intro b hm
 have e:p+1 - f=p - f+1:=by omega
 have hlt:p - f < (l.drop f).length:=by rw [List.length_drop];omega
 rw [e,List.take_succ_eq_append_getElem hlt] at hm
 rcases List.mem_append.1 hm with hm | hm
 ·exact h b hm
 ·have h9:b=(l.drop f)[p - f]:=List.mem_singleton.1 hm
  rw [h9,List.getElem_drop]
  intro h8
  refine hb ?_
  rw [List.getD_eq_getElem?_getD,List.getElem?_eq_getElem hp,Option.getD_some,←h8]
  congr 1;omega
theorem b2x {c:UInt8} {l:Bs} {f p:Nat} (hf:f≤p) (hp:p≤l.length) (h:∀ b∈(l.drop f).take (p - f),b≠c) (hb:p < l.length→l.getD p 0=c):a0i c (l.drop f)=(l.drop f).take (p - f)::(if p < l.length then a0i c (l.drop (p+1)) else []):=by
 by_cases hlt:p < l.length
 ·rw [if_pos hlt]
  have e:l.drop f=(l.drop f).take (p - f)++c::l.drop (p+1):=by
   have h1:(l.drop f).drop (p - f)=l.drop p:=by rw [List.drop_drop];congr 1;omega
   have:=List.take_append_drop (p - f) (l.drop f)
   rw [h1,b1y hlt,hb hlt] at this
   exact this.symm
  have:=b1l c ((l.drop f).take (p - f)) (l.drop (p+1)) h
  rw [←e] at this
  exact this
 ·rw [if_neg hlt]
  have e:(l.drop f).take (p - f)=l.drop f:=List.take_of_length_le (by rw [List.length_drop];omega)
  rw [e] at h ⊢
  exact a7k c _ h
theorem b9z (s:Bs) (hs:s.length≤1000000):a0t Tryz.prog 65 [a0r s] (c1E (a3R 61 s)):=by
 refine a0n Tryz.func65 rfl kr _ _ _ rfl 24 rfl rfl (fun w F=>?_)
 refine ru 14 ?_
 refine a0o (α:=Nat) (fun x c=>⟨24,[(0,.v (a0r s)),(5,.v (a0g x))],[],c⟩) (fun x=>x≤s.length∧∀ j,j < x→s.getD j 0≠61) (fun x=>s.length - x) (0) (by exact ⟨Nat.zero_le _,fun j h=>absurd h (Nat.not_lt_zero _)⟩) (a0c rfl (Nat.le_refl _) tsa a0j.nil) (fun k c hx NhL1 hL1=>?_)
 (try dsimp only at hx hL1 ⊢)
 obtain ⟨hk,hno⟩:=hx
 refine ru 9 ?_
 refine wdc (fun hr0 hc0=>?_) (fun hr0 hc0=>?_)
 ·refine ru 12 ?_
  refine wdc (fun hr1 hc1=>?_) (fun hr1 hc1=>?_)
  ·refine ru 8 ?_
   refine d0 7 (HOp.val (v':=a0r (s.drop (k+1))) (a6t (by kernel_rfl) rfl (.inr ⟨_,_,rfl,rfl⟩) (.inl ⟨rfl,rfl⟩) (by first | exact Nat.le_of_ble_eq_true rfl | omega | (dsimp only;omega) | (simp <;> omega)) (by first | exact Nat.le_of_ble_eq_true rfl | omega | (dsimp only;omega) | (simp <;> omega)) (by first | exact Nat.le_of_ble_eq_true rfl | omega | (dsimp only;omega) | (simp <;> omega))) ((by show a0r (List.take ((s.length:Int).toNat - ((k:Int)+1).toNat) (s.drop ((k:Int)+1).toNat))=_;rw [show ((k:Int)+1).toNat=k+1 by omega,List.take_of_length_le (by rw [List.length_drop];omega)]))) ?_
   refine ru 8 ?_
   refine a0f ?_
   refine ru 2 ?_
   refine rt3 ?_
   rw [b7l om hno (b3v (by show _=61;omega))];exact a1q (.imm _) (.imm _) (.imm _)
  refine ru 8 ?_
  exact hL1 (k+1) _ _ (by (try dsimp only);exact ⟨by omega,fun j hj=>by rcases Nat.lt_or_ge j k with h | h;exact hno j h;have hjk:j=k:=om;subst hjk;exact fun h=>hc1 (by rw [h];rfl)⟩) (by (try dsimp only);omega) (a0c rfl (Nat.le_refl _) tsa a0j.nil)
 refine ru 2 ?_
 refine a0d ?_
 refine ru 11 ?_
 refine rt3 ?_
 rw [b7g (fun j hj=>hno j om)];exact a1q (.imm _) (.imm _) (.imm _)
theorem b7d (s:Bs) (hs:s.length≤1000000):a0t Tryz.prog 68 [a0r s] (t3 (a0x ((a0T s).getD (false,[])).1) (a1a ((a0T s).getD (false,[])).2) (a0x (a0T s).isSome)):=by
 refine a0n Tryz.func68 rfl kr _ _ _ rfl 50 rfl rfl (fun w F=>?_)
 refine ru 14 ?_
 refine wdc (fun hr0 hc0=>?_) (fun hr0 hc0=>?_)
 ·skip
  have hl:a0T s=some (true,[]):=(by unfold a0T;rw [if_pos (by simpa using hr0)])
  refine ru 9 ?_
  refine rt3 ?_
  rw [hl];exact a1q (.imm _) (.nil _ _ _ (by decide) _) (.imm _)
 have hl:a0T s=(b2l s).map (fun l=>(false,l)):=(by unfold a0T;rw [if_neg (by simpa using hr0)])
 refine ru 19 ?_
 refine a4b 5 8001 1 9 ((b7f [])) rfl (by decide) rfl (c':=1) rfl ?_
 refine a0o (α:=Nat×List Bs×Nat×Nat) (fun x c=>⟨50,[(0,.v (a0r s)),(5,.v (.os 8001 x.2.2.2 0 x.2.1.length)),(6,.v (a0g x.2.2.1)),(7,.v (a0g x.1))],[(8001,a5y x.2.2.2 x.2.1)],c⟩) (fun x=>(x.1≤s.length∧x.2.2.1≤x.1∧x.2.1.length≤x.2.2.1∧(∀ b∈(s.drop x.2.2.1).take (x.1 - x.2.2.1),b≠44)∧a7T (a0i 44 (s.drop x.2.2.1)) x.2.1=b2l s)∨(x.1=s.length+1∧x.2.1.length≤x.1∧b2l s=some x.2.1)) (fun x=>s.length+1 - x.1) ((0,[],0,0)) (by exact .inl ⟨Nat.zero_le _,Nat.le_refl _,Nat.le_refl _,(fun b h=>by simp at h),rfl⟩) (a0c rfl (Nat.le_refl _) tsa hsa) (fun x c hx NhL1 hL1=>?_)
 revert hx hL1;obtain ⟨p,out,f,g⟩:=x;intro hx hL1;dsimp only at hx hL1 ⊢
 refine ru 9 ?_
 refine wdc (fun hr1 hc1=>?_) (fun hr1 hc1=>?_)
 ·skip
  obtain ⟨hp,hf,ho,hno,hF⟩:=hx.resolve_right (fun h=>by omega)
  refine ru 19 ?_
  refine wdc (fun hr2 hc2=>?_) (fun hr2 hc2=>?_)
  ·refine ru 9 ?_
   exact hL1 ((p+1,out,f,g)) _ _ (by (try dsimp only);exact .inl ⟨by omega,by omega,ho,b9W hf om hno (fun h=>by have h9:=hc2.2;rw [h] at h9;exact h9 rfl),hF⟩) (by (try dsimp only);omega) (a0c rfl (Nat.le_refl _) tsa hsa)
  have hS:=b2x hf hp hno (fun h=>b3v (by rcases Bool.and_eq_false_iff.1 hc2 with h9 | h9;(exact absurd (show (p:Int) < s.length by omega) (of_decide_eq_false h9));(have h8:=bne_eq_false_iff_eq.1 h9;show _=44;omega)));obtain ⟨w_,hw_⟩:∃ w_,(s.drop f).take (p - f)=w_:=⟨_,rfl⟩;have hwl:w_.length≤1000000:=(by rw [←hw_,List.length_take,List.length_drop];omega);rw [hS,hw_] at hF
  refine ru 9 ?_
  refine rvl (a0r w_) ((by rw [←hw_];first | done | rfl)) ?_
  refine cll (a9K w_ hwl) ?_
  refine ru 7 ?_
  refine ry (a0r w_) rfl (fun hb=>(by rw [←hw_];first | done | rfl)) ?_
  first
  | refine a4c 38 6 32 false _ (fun hb=>a0y (xs:=[_,_]) (pre:=[(8001,_)]) (a9F g out w_ (by omega)) ⟨rfl,⟨rfl,trivial⟩⟩) rfl rfl rfl rfl (a0h rfl a0e) rfl rfl rfl ?_
  | refine a3z 38 6 32 _ _ false _ (fun hb=>a0y (xs:=[_,_]) (pre:=[(8001,_)]) (a9F g out w_ (by omega)) ⟨rfl,⟨rfl,trivial⟩⟩) rfl rfl rfl rfl (a0h rfl a0e) rfl rfl rfl ?_
  refine ru 3 ?_
  refine wdc (fun hr3 hc3=>?_) (fun hr3 hc3=>?_)
  ·skip
   have hnn:b2l s=none:=(by rw [←hF];unfold a7T;rw [if_neg (fun hh=>by rcases hc3 with h | h;(rw [hh.1] at h;cases h);exact hh.2 h)])
   refine ru 11 ?_
   refine a0f ?_
   refine ru 2 ?_
   refine rt3 ?_
   rw [hl,hnn];exact a1q (.imm _) (.nil _ _ _ (by decide) _) (.imm _)
  have hx4:a7T (if p < s.length then a0i 44 (s.drop (p+1)) else []) (out++[w_])=b2l s:=(by rw [←hF];show _=(if a2P w_=true∧w_∉out then _ else _);exact (if_pos (by simpa using hc3)).symm)
  refine ru 9 ?_
  refine rvl (a0r w_) ((by rw [←hw_];first | done | rfl)) ?_
  refine a0p 45 (a0b (id:=45) (hs:=[_]) ei_44.h omx rfl omx ⟨rfl,rfl,rfl,rfl,trivial⟩) rfl rfl a0e rfl rfl (c':=c+1) rfl ?_
  first
  | refine a0p 46 (a0a ei_44.h (by first | exact Nat.le_of_ble_eq_true rfl | omega | (dsimp only;omega) | (simp <;> omega)) rfl (by first | exact Nat.le_of_ble_eq_true rfl | omega | (dsimp only;omega) | (simp <;> omega)) (by first | exact Nat.le_of_ble_eq_true rfl | omega | (dsimp only;omega) | (simp <;> omega)) (a0s rfl (by first | exact Nat.le_of_ble_eq_true rfl | omega | (dsimp only;omega) | (simp <;> omega))) (by first | exact Nat.le_of_ble_eq_true rfl | omega | (dsimp only;omega) | (simp <;> omega)) rfl) rfl rfl (a0h rfl (a0B rfl)) rfl rfl (c':=c+2) rfl ?_
  | refine a0p 46 (a0a ei_44.h (by first | exact Nat.le_of_ble_eq_true rfl | omega | (dsimp only;omega) | (simp <;> omega)) rfl (by first | exact Nat.le_of_ble_eq_true rfl | omega | (dsimp only;omega) | (simp <;> omega)) (by first | exact Nat.le_of_ble_eq_true rfl | omega | (dsimp only;omega) | (simp <;> omega)) (a0D rfl (by first | exact Nat.le_of_ble_eq_true rfl | omega | (dsimp only;omega) | (simp <;> omega))) (by first | exact Nat.le_of_ble_eq_true rfl | omega | (dsimp only;omega) | (simp <;> omega)) rfl) rfl rfl (a0h rfl (a0B rfl)) rfl rfl (c':=c+2) rfl ?_
  | refine a0p 46 (a0a ei_44.h (by first | exact Nat.le_of_ble_eq_true rfl | omega | (dsimp only;omega) | (simp <;> omega)) rfl (by first | exact Nat.le_of_ble_eq_true rfl | omega | (dsimp only;omega) | (simp <;> omega)) (by first | exact Nat.le_of_ble_eq_true rfl | omega | (dsimp only;omega) | (simp <;> omega)) (a0C rfl) (by first | exact Nat.le_of_ble_eq_true rfl | omega | (dsimp only;omega) | (simp <;> omega)) rfl) rfl rfl (a0h rfl a0e) rfl rfl (c':=c+2) rfl ?_
  | refine a0p 46 (a0a ei_44.h (by first | exact Nat.le_of_ble_eq_true rfl | omega | (dsimp only;omega) | (simp <;> omega)) rfl (by first | exact Nat.le_of_ble_eq_true rfl | omega | (dsimp only;omega) | (simp <;> omega)) (by first | exact Nat.le_of_ble_eq_true rfl | omega | (dsimp only;omega) | (simp <;> omega)) (a0u 1 (fun _ _=>default) rfl) (by first | exact Nat.le_of_ble_eq_true rfl | omega | (dsimp only;omega) | (simp <;> omega)) rfl) rfl rfl (a0h rfl a0e) rfl rfl (c':=c+2) rfl ?_
  refine ru 15 ?_
  exact hL1 ((p+1,out++[w_],p+1,_)) _ _ (by (try dsimp only);(by_cases hlt:p < s.length;(rw [if_pos hlt] at hx4;exact .inl ⟨by omega,Nat.le_refl _,by simp;omega,(fun b h=>by simp at h),hx4⟩);(rw [if_neg hlt] at hx4;exact .inr ⟨by omega,by simp;omega,hx4.symm⟩))) (by (try dsimp only);omega) (a0c rfl (Nat.le_refl _) (tsr rfl (a0E.cons rfl (a1G (by simp)) tsa)) (a0j.cons rfl (a0w (enc:=fun x _=>a0r x) (d:=[]) rfl (fun i j hi hj=>.refl _) (fun j hj=>.refl _)) a0j.nil))
 refine ru 2 ?_
 refine a0d ?_
 refine ru 3 ?_
 have hx5:b2l s=some out:=(by rcases hx with h | h;omega;exact h.2.2)
 refine ru 8 ?_
 refine a4A rfl (a0k rfl) (a0k rfl) (a0k rfl) [(8001,_)] rfl (a0h rfl a0e) ?_
 rw [hl,hx5];exact a1q (.imm _) (a1z (l:=out) (enc:=fun x _=>a0r x) (d:=[]) (List.mem_cons_self ..) rfl rfl (Nat.le_refl _) (fun i j hi hj=>.imm _)) (.imm _)
theorem a8x:∀ {l:List Bs} {w:Bs},l≠[]→a0U (l++[w])=a0U l++32::w
  | [],_,h=>absurd rfl h
  | [a],w,_=>rfl
  | a :: b :: r, w, _ => by
    show a++32::a0U (b::r++[w])=(a++32::a0U (b::r))++32::w
    rw [a8x (l:=b::r) (fun h=>by cases h)];simp
theorem b4w {l:List Bs} {k:Nat} (h:k < l.length):a0U (l.take (k+1))=(if 0 < k then a0U (l.take k)++[32] else a0U (l.take k))++l.getD k []:=by
 rw [List.take_succ_eq_append_getElem h,List.getD_eq_getElem?_getD,List.getElem?_eq_getElem h,Option.getD_some]
 by_cases h0:0 < k
 ·rw [if_pos h0,a8x (by intro h9;have:=congrArg List.length h9;rw [List.length_take,List.length_nil] at this;omega)];simp
 ·have:k=0:=by omega
  subst this;rfl
theorem a4F:∀ (l:List Bs) (k:Nat),(a0U (l.take k)).length≤(a0U l).length
  | [],k=>by simp
  | a::l,0=>Nat.zero_le _
  | [a],k+1=>by simp
  | a::b::l,1=>by show a.length≤(a++32::a0U (b::l)).length;simp
  | a :: b :: l, k + 2 => by
    have:=a4F (b::l) (k+1)
    show (a++32::a0U ((b::l).take (k+1))).length≤(a++32::a0U (b::l)).length
    simp only [List.length_append,List.length_cons] at this ⊢;omega
theorem c0t (l:List Bs) (hl:l.length≤1000000) (hj:(a0U l).length≤1000000):a0t Tryz.prog 70 [a1a l] (a0r (a0U l)):=by
 refine a0n Tryz.func70 rfl kr _ _ _ rfl 22 rfl rfl (fun w F=>?_)
 refine ru 17 ?_
 refine a0o (α:=Nat) (fun x c=>⟨22,[(0,.v (a1a l)),(3,.v (a0r (a0U (l.take x)))),(4,.v (a0g x))],[],c⟩) (fun x=>x≤l.length) (fun x=>l.length - x) (0) (by exact Nat.zero_le _) (a0c rfl (Nat.le_refl _) tsa a0j.nil) (fun k c hx NhL1 hL1=>?_)
 (try dsimp only at hx hL1 ⊢)
 refine ru 9 ?_
 refine wdc (fun hr0 hc0=>?_) (fun hr0 hc0=>?_)
 ·skip
  have hT:=b4w (l:=l) (k:=k) om;have hT1:=a4F l (k+1);have hT0:(a0U (l.take k)).length+1≤9223372036854775807:=(by have:=a4F l k;omega)
  refine ru 11 ?_
  refine wdc (fun hr1 hc1=>?_) (fun hr1 hc1=>?_)
  ·skip
   have hT2:a0U (l.take (k+1))=a0U (l.take k)++[32]++l.getD k []:=(by rw [hT,if_pos om]);have hLn:(a0U (l.take k)++[32]).length+(l.getD k []).length≤1000000:=(by rw [←List.length_append,←hT2];omega)
   refine ru 12 ?_
   refine rvl (a0r (l.getD k [])) (rfl) ?_
   refine ru 1 ?_
   refine rvl (a0r (a0U (l.take (k+1)))) ((by rw [hT2])) ?_
   refine ru 9 ?_
   exact hL1 (k+1) _ _ (by (try dsimp only);omega) (by (try dsimp only);omega) (a0c rfl (Nat.le_refl _) tsa a0j.nil)
  have hk0:¬ 0 < k:=om;have hT2:a0U (l.take (k+1))=a0U (l.take k)++l.getD k []:=(by rw [hT,if_neg hk0]);have hLn:(a0U (l.take k)).length+(l.getD k []).length≤1000000:=(by rw [←List.length_append,←hT2];omega)
  refine ru 8 ?_
  refine rvl (a0r (l.getD k [])) (rfl) ?_
  refine ru 1 ?_
  refine rvl (a0r (a0U (l.take (k+1)))) ((by rw [hT2])) ?_
  refine ru 9 ?_
  exact hL1 (k+1) _ _ (by (try dsimp only);omega) (by (try dsimp only);omega) (a0c rfl (Nat.le_refl _) tsa a0j.nil)
 refine ru 2 ?_
 refine a0d ?_
 refine ru 9 ?_
 refine rt1 ?_
 rw [List.take_of_length_le om];exact .imm _
theorem a6M (s:Bs):0≤(a1v s).getD (-1)↔(a1v s).isSome=true:=by
  unfold a1v
  cases a2U s with
  | none=>simp
  | some n =>
    show 0≤(if 0≤n∧n≤999 then some n else none).getD (-1)↔(if 0≤n∧n≤999 then some n else none).isSome=true
    split <;> simp;omega
theorem b3g {s:Bs} (h:(a1v s).isSome=true):(a1v s).getD (-1)=(a2U s).getD 0:=by
  unfold a1v at h ⊢
  cases hn:a2U s with
  | none=>rw [hn] at h;cases h
  | some n =>
    rw [hn] at h
    have h:(if 0≤n∧n≤999 then some n else none).isSome=true:=h
    show (if 0≤n∧n≤999 then some n else none).getD (-1)=n
    split at h
    · rw [if_pos (by assumption)];rfl
    · cases h
@[reducible] def rmO (m:Mk):HObj:=⟨1,1,4,57,0,fun _=>a6n m⟩
theorem b9S (l:List Bs) (hl:2≤l.length∧l.length≤100000) (hw:∀ w∈l,w.length≤100000):a0t Tryz.prog 46 [a1a l] (c4m (a4G l)):=by
 refine a0n Tryz.func46 rfl kr _ _ _ rfl 75 rfl rfl (fun w F=>?_)
 refine ru 11 ?_
 refine rvl (a0r (l.getD 1 [])) (rfl) ?_
 refine ru 17 ?_
 refine a4b 5 8002 1 9 ((b7f [])) rfl (by decide) rfl (c':=4) rfl ?_
 refine a0o (α:=Nat×Mk×List Bs×Nat) (fun x c=>⟨75,[(0,.v (a1a l)),(2,.v (.pt 2 0 0 0)),(4,.v (.pt 4 1 0 0)),(5,.v (.os 8002 x.2.2.2 0 x.2.2.1.length)),(6,.v (a0g (x.1:Int)))],[(2,⟨0,1,4,57,0,fun _=>zMk []⟩),(4,rmO x.2.1),(8002,a5y x.2.2.2 x.2.2.1)],c⟩) (fun x=>2≤x.1∧x.1≤l.length∧x.2.2.1.length+2=x.1∧a9C (l.drop x.1) x.2.2.1 x.2.1=a4G l) (fun x=>l.length - x.1) ((2,⟨l.getD 1 [],0,false,[]⟩,[],3)) (by exact ⟨Nat.le_refl _,hl.1,rfl,rfl⟩) (a0c rfl (Nat.le_refl _) tsa (a0j.cons rfl (a9a (by exact qm4 (.refl _) (.refl _) (.refl _) (.refl _))) (a0j.cons rfl (a9a (by exact qm4 (.refl _) (.refl _) (.refl _) (.nil _ _ _ (by decide) _))) hsa))) (fun x c hx NhL1 hL1=>?_)
 revert hx hL1;obtain ⟨i,m,met,gm⟩:=x;intro hx hL1;dsimp only at hx hL1 ⊢
 obtain ⟨ha0,ha1,ha4,ha3⟩:=hx
 refine ru 9 ?_
 refine wdc (fun hr0 hc0=>?_) (fun hr0 hc0=>?_)
 ·skip
  have hil:i < l.length:=om;obtain ⟨v_,hv_⟩:∃ v_,l.getD i []=v_:=⟨_,rfl⟩;have hd_:l.drop i=v_::l.drop (i+1):=(by rw [List.drop_eq_getElem_cons hil,←hv_,List.getD_eq_getElem?_getD,List.getElem?_eq_getElem hil];rfl);have hvl:v_.length≤1000000:=(by have:=hw v_ (by rw [←hv_];exact a1X hil);omega);rw [hd_] at ha3;obtain ⟨⟨W_,V_,H_⟩,hC_⟩:∃ q,a3R 61 v_=q:=⟨_,rfl⟩;have hcut:a0t Tryz.prog 65 [a0r v_] (c1E (W_,V_,H_)):=(by rw [←hC_];exact b9z v_ hvl);have hVl:V_.length≤1000000:=(by have:=a4h 61 v_;rw [hC_] at this;have h9:V_.length≤v_.length:=this;omega)
  refine ru 10 ?_
  refine rvl (a0r v_) ((by rw [←hv_];first | done | rfl)) ?_
  refine cll (hcut) ?_
  refine ru 15 ?_
  first
  | refine a4c 37 1 34 true _ (fun hb=>a0y (xs:=[_,_]) (pre:=[(8002,_)]) (b1N gm met W_ (by omega)) ⟨rfl,⟨rfl,trivial⟩⟩) rfl rfl rfl rfl (a0h rfl a0e) rfl rfl rfl ?_
  | refine a3z 37 1 34 _ _ true _ (fun hb=>a0y (xs:=[_,_]) (pre:=[(8002,_)]) (b1N gm met W_ (by omega)) ⟨rfl,⟨rfl,trivial⟩⟩) rfl rfl rfl rfl (a0h rfl a0e) rfl rfl rfl ?_
  refine ru 9 ?_
  refine a0p 42 (a0b (id:=42) (hs:=[_]) ei_44.h omx rfl omx ⟨rfl,rfl,rfl,rfl,trivial⟩) rfl rfl a0e rfl rfl (c':=c+1) rfl ?_
  first
  | refine a0p 43 (a0a ei_44.h (by first | exact Nat.le_of_ble_eq_true rfl | omega | (dsimp only;omega) | (simp <;> omega)) rfl (by first | exact Nat.le_of_ble_eq_true rfl | omega | (dsimp only;omega) | (simp <;> omega)) (by first | exact Nat.le_of_ble_eq_true rfl | omega | (dsimp only;omega) | (simp <;> omega)) (a0s rfl (by first | exact Nat.le_of_ble_eq_true rfl | omega | (dsimp only;omega) | (simp <;> omega))) (by first | exact Nat.le_of_ble_eq_true rfl | omega | (dsimp only;omega) | (simp <;> omega)) rfl) rfl rfl (a0h rfl (a0B rfl)) rfl rfl (c':=c+2) rfl ?_
  | refine a0p 43 (a0a ei_44.h (by first | exact Nat.le_of_ble_eq_true rfl | omega | (dsimp only;omega) | (simp <;> omega)) rfl (by first | exact Nat.le_of_ble_eq_true rfl | omega | (dsimp only;omega) | (simp <;> omega)) (by first | exact Nat.le_of_ble_eq_true rfl | omega | (dsimp only;omega) | (simp <;> omega)) (a0D rfl (by first | exact Nat.le_of_ble_eq_true rfl | omega | (dsimp only;omega) | (simp <;> omega))) (by first | exact Nat.le_of_ble_eq_true rfl | omega | (dsimp only;omega) | (simp <;> omega)) rfl) rfl rfl (a0h rfl (a0B rfl)) rfl rfl (c':=c+2) rfl ?_
  | refine a0p 43 (a0a ei_44.h (by first | exact Nat.le_of_ble_eq_true rfl | omega | (dsimp only;omega) | (simp <;> omega)) rfl (by first | exact Nat.le_of_ble_eq_true rfl | omega | (dsimp only;omega) | (simp <;> omega)) (by first | exact Nat.le_of_ble_eq_true rfl | omega | (dsimp only;omega) | (simp <;> omega)) (a0C rfl) (by first | exact Nat.le_of_ble_eq_true rfl | omega | (dsimp only;omega) | (simp <;> omega)) rfl) rfl rfl (a0h rfl a0e) rfl rfl (c':=c+2) rfl ?_
  | refine a0p 43 (a0a ei_44.h (by first | exact Nat.le_of_ble_eq_true rfl | omega | (dsimp only;omega) | (simp <;> omega)) rfl (by first | exact Nat.le_of_ble_eq_true rfl | omega | (dsimp only;omega) | (simp <;> omega)) (by first | exact Nat.le_of_ble_eq_true rfl | omega | (dsimp only;omega) | (simp <;> omega)) (a0u 1 (fun _ _=>default) rfl) (by first | exact Nat.le_of_ble_eq_true rfl | omega | (dsimp only;omega) | (simp <;> omega)) rfl) rfl rfl (a0h rfl a0e) rfl rfl (c':=c+2) rfl ?_
  refine ru 10 ?_
  refine wdc (fun hr1 hc1=>?_) (fun hr1 hc1=>?_)
  ·skip
   have hWv:W_=c2I:=(by simpa using hr1)
   refine ru 3 ?_
   refine cll (b2W V_ hVl) ?_
   refine ru 20 ?_
   refine wdc (fun hr3 hc3=>?_) (fun hr3 hc3=>?_)
   ·skip
    have hR:a2W W_ m V_=({ m with val:=(a2U V_).getD 0 },(a1v V_).isSome):=(by unfold a2W;rw [if_pos hWv]);have hq3:=hr3;have hbad:=a3W (r:=l.drop (i+1)) (met:=met) (m:=m) hC_ (by rw [hR];have hvd:=a6M V_;cases H_ <;> by_cases hm:W_∈met <;> cases hs:(a1v V_).isSome <;> simp_all)
    refine ru 10 ?_
    refine a0f ?_
    refine ru 2 ?_
    refine rt2 ?_
    rw [←ha3,hbad];exact a1r (.agg _ _ _ (by exact qm4 (.imm _) (.imm _) (.imm _) (.nil _ _ _ (by decide) _))) (.imm _)
   have hR:a2W W_ m V_=({ m with val:=(a2U V_).getD 0 },(a1v V_).isSome):=(by unfold a2W;rw [if_pos hWv]);have hq3:=hr3;have hvs:(a1v V_).isSome=true:=(by rw [←a6M];simp at hq3;omega);have hon:=a7a (r:=l.drop (i+1)) (met:=met) (m:=m) hC_ (by rw [hR];cases H_ <;> by_cases hm:W_∈met <;> simp_all);rw [ha3,hR] at hon
   refine ru 8 ?_
   exact hL1 ((i+1,{ m with val:=(a2U V_).getD 0 },met++[W_],_)) _ _ (by (try dsimp only);exact ⟨by omega,by omega,by simp;omega,hon.symm⟩) (by (try dsimp only);omega) (a0c rfl (Nat.le_refl _) (tsr rfl (tsr rfl (tsr rfl (a0E.cons rfl (a1G (by simp)) tsa)))) (hsr rfl (a0j.cons rfl (a9a (by exact qm4 (.refl _) (a0S (b3g hvs)) (.refl _) (.refl _))) (a0j.cons rfl (a0w (enc:=fun x _=>a0r x) (d:=[]) rfl (fun i j hi hj=>.refl _) (fun j hj=>.refl _)) a0j.nil))))
  have hWv:W_≠c2I:=(by simpa using hr1)
  refine ru 6 ?_
  refine wdc (fun hr2 hc2=>?_) (fun hr2 hc2=>?_)
  ·skip
   have hWb:W_=b6f:=(by simpa using hr2)
   refine ru 3 ?_
   refine cll (b7d V_ hVl) ?_
   refine ru 37 ?_
   refine wdc (fun hr3 hc3=>?_) (fun hr3 hc3=>?_)
   ·skip
    have hR:a2W W_ m V_=({ m with all:=((a0T V_).getD (false,[])).1,bars:=((a0T V_).getD (false,[])).2 },(a0T V_).isSome):=(by unfold a2W;rw [if_neg hWv,if_pos hWb]);have hq3:=hr3;have hbad:=a3W (r:=l.drop (i+1)) (met:=met) (m:=m) hC_ (by rw [hR];cases H_ <;> by_cases hm:W_∈met <;> cases hs:(a0T V_).isSome <;> simp_all)
    refine ru 10 ?_
    refine a0f ?_
    refine ru 2 ?_
    refine rt2 ?_
    rw [←ha3,hbad];exact a1r (.agg _ _ _ (by exact qm4 (.imm _) (.imm _) (.imm _) (.nil _ _ _ (by decide) _))) (.imm _)
   have hR:a2W W_ m V_=({ m with all:=((a0T V_).getD (false,[])).1,bars:=((a0T V_).getD (false,[])).2 },(a0T V_).isSome):=(by unfold a2W;rw [if_neg hWv,if_pos hWb]);have hq3:=hr3;have hon:=a7a (r:=l.drop (i+1)) (met:=met) (m:=m) hC_ (by rw [hR];cases H_ <;> by_cases hm:W_∈met <;> cases hs:(a0T V_).isSome <;> simp_all);rw [ha3,hR] at hon
   refine ru 8 ?_
   exact hL1 ((i+1,{ m with all:=((a0T V_).getD (false,[])).1,bars:=((a0T V_).getD (false,[])).2 },met++[W_],_)) _ _ (by (try dsimp only);exact ⟨by omega,by omega,by simp;omega,hon.symm⟩) (by (try dsimp only);omega) (a0c rfl (Nat.le_refl _) (tsr rfl (tsr rfl (tsr rfl (a0E.cons rfl (a1G (by simp)) tsa)))) (hsr rfl (a0j.cons rfl (a9a (by exact qm4 (.refl _) (.refl _) (.refl _) (.refl _))) (a0j.cons rfl (a0w (enc:=fun x _=>a0r x) (d:=[]) rfl (fun i j hi hj=>.refl _) (fun j hj=>.refl _)) a0j.nil))))
  have hWb:W_≠b6f:=(by simpa using hr2)
  refine ru 10 ?_
  refine wdc (fun hr3 hc3=>?_) (fun hr3 hc3=>?_)
  ·skip
   have hR:a2W W_ m V_=(m,false):=(by unfold a2W;rw [if_neg hWv,if_neg hWb]);have hbad:=a3W (r:=l.drop (i+1)) (met:=met) (m:=m) hC_ (by rw [hR];exact .inr (.inl rfl))
   refine ru 10 ?_
   refine a0f ?_
   refine ru 2 ?_
   refine rt2 ?_
   rw [←ha3,hbad];exact a1r (.agg _ _ _ (by exact qm4 (.imm _) (.imm _) (.imm _) (.nil _ _ _ (by decide) _))) (.imm _)
  exfalso;simp at hr3
 rw [List.drop_of_length_le (show l.length≤i by omega)] at ha3
 refine ru 2 ?_
 refine a0d ?_
 refine ru 10 ?_
 refine rt2 ?_
 rw [←ha3];exact a1r (.agg _ _ _ (by exact qm4 (.imm _) (.imm _) (.imm _) (show Fz _ (a1a m.bars) (a1a m.bars) from .sl _ _ _ _ fun _ _ _ _=>.imm _))) (.imm _)
@[reducible] def c4f (e:List Pt) (b:Nat) (t:T):Prop:=∀ bin,a0t Tryz.prog 97 [a5f e,a0g ((b+t.size - 1:Nat):Int),a0x bin] (a3l (a1h bin t.sig))
theorem c0m (k:Int) (ts:List T) (i:Nat) (h:i < ts.length):(ts.getD i default).sig.length≤(T.sigL k true ts).length:=by
 have:=a2p (k:=k) h
 have h2:=(a3f (inB k (ts.getD i default).kind) (ts.getD i default).sig).2
 omega
theorem b0N:∀ ts:List T,ts.length≤T.sizeL ts
 | []=>Nat.zero_le _
 | t::ts=>by have:=b0N ts;have:=t.size_pos;simp only [List.length_cons,T.sizeL];omega
theorem b7Z {t:T}:t.kidsT.length≤t.size:=by
 cases t with
 | name s=>exact Nat.zero_le _
 | times lo hi t=>simp [T.kidsT,T.size]
 | many k ts=>have:=b0N ts;simp only [T.kidsT,T.size];omega
mutual
theorem a7Q (e:List Pt) (he:e.length≤100000):∀ (t:T) (b:Nat),t.ok=true→t.sig.length≤100000→AtP e b (T.flat b t)→c4f e b t
  | .name s,b,hok,hl,hat=>a9E e he b (.name s) hok hat (Nat.zero_le _) hl (fun i hi=>absurd hi (Nat.not_lt_zero _))
  | .times lo hi t, b, hok, hl, hat => by
    have hok':t.ok=true:=by simp only [T.ok,Bool.and_eq_true] at hok;exact hok.2
    have hl':t.sig.length≤100000:=by
      have h2:=(a3f (inB 4 t.kind) t.sig).2
      simp only [T.sig,List.length_append] at hl;omega
    refine a9E e he b (.times lo hi t) hok hat (by simp [T.kidsT]) hl (fun i hi bin=>?_)
    obtain rfl:i=0:=by simpa [T.kidsT] using hi
    have:=a7Q e he t b hok' hl' (by simp only [T.flat] at hat;exact a5s hat) bin
    simpa [T.kidsT,T.sizeL] using this
  | .many k ts, b, hok, hl, hat => by
    have hok':T.okL ts=true:=by simp only [T.ok,Bool.and_eq_true] at hok;exact hok.2
    have hkl:(T.many k ts).kidsT.length≤100000:=by
      have:=b7Z (t:=.many k ts);have:=(a3C hat).2;omega
    exact a9E e he b (.many k ts) hok hat hkl hl (fun i hi bin=>a8B e he ts hok' (fun j hj=>Nat.le_trans (c0m k ts j hj) hl) i hi _ (b3z hat hi) bin)
theorem a8B (e:List Pt) (he:e.length≤100000):∀ ts:List T,T.okL ts=true→(∀ j,j < ts.length→(ts.getD j default).sig.length≤100000)→∀ i,i < ts.length→∀ b,AtP e b (T.flat b (ts.getD i default))→c4f e b (ts.getD i default)
  | [],_,_,i,hi=>absurd hi (Nat.not_lt_zero _)
  | t :: ts, hok, hl, i, hi => fun b hat => by
    simp only [T.okL,Bool.and_eq_true] at hok
    cases i with
    | zero=>exact a7Q e he t b hok.1 (hl 0 (by simp)) hat
    | succ i=>exact a8B e he ts hok.2 (fun j hj=>by have:=hl (j+1) (by simpa using hj);simpa using this) i (by simpa using hi) b (by simpa using hat)
end
theorem b4C (t:T) (h:t.ok=true) (hs:t.size≤250):a0t Tryz.prog 71 [a5f (T.flat 0 t)] (a0r (a6j t.sig)):=by
 have hfl:=T.flat_len 0 t
 have hsl:=a7t t h
 have hps:=t.size_pos
 have hat:AtP (T.flat 0 t) 0 (T.flat 0 t):=⟨[],[],by simp,rfl⟩
 refine a0n Tryz.func71 rfl kr _ _ _ rfl 9 rfl rfl (fun w F=>?_)
 refine ru 11 ?_
 refine rvl (a0g ((0+t.size - 1:Nat):Int)) (congrArg a0g (show ((T.flat 0 t).length:Int) - 1=((0+t.size - 1:Nat):Int) by omega)) ?_
 refine cll (a7Q (T.flat 0 t) om t 0 h om hat false) ?_
 refine cll (b2s t.sig om (fun x hx=>(b8J t h x hx).ok)) ?_
 refine ru 4 ?_
 refine rt1 ?_
 exact Frz.fz
set_option maxHeartbeats 4000000
theorem b1q {s:Bs} (h:(a3K s).1=[]):a5Y s=[]:=by
 unfold a5Y
 refine dif_neg fun ⟨t,h1,h2,h3⟩=>?_
 rw [h3] at h
 have:=T.size_pos t
 rw [←T.flat_len 0 t,show T.flat 0 t=[] from h] at this
 exact absurd this (Nat.lt_irrefl 0)
theorem c0a (s:Bs) (hn:(a3K s).1≠[]):a0t Tryz.prog 71 [a5f (a3K s).1] (a0r (a5Y s)):=by
 have h:∃ t:T,t.ok=true∧t.size≤250∧a3K s=(T.flat 0 t,0,0):=(a8q s).resolve_left hn
 unfold a5Y
 rw [dif_pos h]
 obtain ⟨h1,h2,h3⟩:=Classical.choose_spec h
 have:=b4C (Classical.choose h) h1 h2
 exact (congrArg (fun q:List Pt=>a0t Tryz.prog 71 [a5f q] (a0r (a6j (Classical.choose h).sig))) (congrArg Prod.fst h3)).mpr this
@[reducible] def rnO (n:Nd) (g:Nat):HObj:=⟨1,1,9,54,0,fun _=>ndG n g n.groups.length⟩
theorem c0S (l:List Bs) (hl:2≤l.length∧l.length≤100000) (hw:∀ w∈l,w.length≤100000) (hj:(a0U l).length≤1000000):a0t Tryz.prog 47 [a1a l] (c4h (a2Y l)):=by
 refine a0n Tryz.func47 rfl kr _ _ _ rfl 151 rfl rfl (fun w F=>?_)
 refine ru 11 ?_
 refine rvl (a0r (l.getD 1 [])) (rfl) ?_
 refine ru 17 ?_
 refine a4b 5 8002 1 9 (b7f []) rfl (by decide) rfl (c':=4) rfl ?_;refine (a1l 4 1 8001 1 9 (b7f []) (fun _=>ndZ (l.getD 1 []) 4) rfl rfl (by exact q9 (.inr rfl) (.inl ⟨rfl,rfl⟩) (.inr rfl) (.inr rfl) (.inr rfl) (.inr rfl) (.inr rfl) (.inr rfl) (.inr rfl)) (by decide) (by decide) (c':=5) rfl).wp ?_
 refine a0o (α:=Nat×Nd×List Bs×Nat×Nat) (fun x c=>⟨151,[(0,.v (a1a l)),(2,.v (.pt 2 0 0 0)),(4,.v (.pt 4 1 0 0)),(5,.v (.os 8002 x.2.2.2.2 0 x.2.2.1.length)),(6,.v (a0g (x.1:Int)))],[(2,⟨0,1,9,54,0,fun _=>zNd⟩),(4,rnO x.2.1 x.2.2.2.1),(8001,a5y x.2.2.2.1 x.2.1.groups),(8002,a5y x.2.2.2.2 x.2.2.1)],c⟩) (fun x=>2≤x.1∧x.1≤l.length∧x.2.2.1.length+2=x.1∧x.2.1.groups.length≤4∧x.2.1.expr=[]∧a8a (l.drop x.1) x.2.2.1 x.2.1=a2Y l) (fun x=>l.length - x.1) ((2,⟨l.getD 1 [],[],false,false,true,0,false,[],[]⟩,[],4,3)) (by exact ⟨Nat.le_refl _,hl.1,rfl,Nat.zero_le _,rfl,rfl⟩) (a0c rfl (Nat.le_refl _) tsa (a0j.cons rfl (a7Z (by exact q9 (.refl _) (.refl _) (.refl _) (.refl _) (.refl _) (.refl _) (.refl _) (.refl _) (.refl _))) (a0j.cons rfl (a7Z (by exact q9 (.refl _) (.refl _) (.refl _) (.refl _) (.refl _) (.refl _) (.refl _) (.nil _ _ _ (by decide) _) (.refl _))) hsa))) (fun x c hx NhL1 hL1=>?_)
 revert hx hL1;obtain ⟨i,n,met,g,gm⟩:=x;intro hx hL1;dsimp only at hx hL1 ⊢
 obtain ⟨ha0,ha1,ha4,ha2,ha5,ha3⟩:=hx
 refine ru 9 ?_
 refine wdc (fun hr0 hc0=>?_) (fun hr0 hc0=>?_)
 ·skip
  have hil:i < l.length:=om;obtain ⟨v_,hv_⟩:∃ v_,l.getD i []=v_:=⟨_,rfl⟩;have hd_:l.drop i=v_::l.drop (i+1):=(by rw [List.drop_eq_getElem_cons hil,←hv_,List.getD_eq_getElem?_getD,List.getElem?_eq_getElem hil];rfl);have hvl:v_.length≤1000000:=(by have:=hw v_ (by rw [←hv_];exact a1X hil);omega);rw [hd_] at ha3
  refine ru 11 ?_
  refine rvl (a0r v_) ((by rw [←hv_];first | done | rfl)) ?_
  refine ru 3 ?_
  refine wdc (fun hr1 hc1=>?_) (fun hr1 hc1=>?_)
  ·skip
   have hv58:v_=[58]:=(by simpa using hr1);have hjl:=a6e l (i+1);subst hv58;rw [a4r] at ha3
   refine ru 6 ?_
   refine s0 (a0l (xs:=[_]) (c0t (l.drop (i+1)) (by rw [List.length_drop];omega) om) ⟨rfl,trivial⟩ ⟨(b1Z (l.drop (i+1)) (by rw [List.length_drop];omega) (fun k hk=>by show a0r (l.getD ((((i:Nat):Int)+1).toNat+k) [])=_;rw [show (((i:Nat):Int)+1).toNat+k=i+1+k by omega,List.getD_eq_getElem?_getD,List.getD_eq_getElem?_getD,List.getElem?_drop])),trivial⟩) ?_
   refine a0m 38 (xs:=[_]) (pre:=[]) (b3T (a0U (l.drop (i+1))) (a3K (a0U (l.drop (i+1)))) om (a9S _) _) ⟨rfl,trivial⟩ a0e rfl rfl (fun u_ c1 hu_=>?_)
   (try dsimp only)
   refine ru 23 ?_
   refine wdc (fun hr2 hc2=>?_) (fun hr2 hc2=>?_)
   ·skip
    have hne:(a3K (a0U (l.drop (i+1)))).1≠[]:=(fun h=>by rw [h] at hc2;simp at hc2)
    refine ru 2 ?_
    refine cll (c0a (a0U (l.drop (i+1))) hne) ?_
    refine ru 17 ?_
    refine a0f ?_
    refine ru 2 ?_
    refine a4B rfl (a0N rfl rfl ty_54.h rqc rfl rfl) (a0k rfl) [(8001,_)] rfl (a0h rfl a0e) ?_
    rw [←ha3];exact a1r (.agg _ _ _ (by exact q9 (.imm _) (a1z (l:=n.groups) (enc:=fun x _=>a0r x) (d:=[]) (List.mem_cons_self ..) rfl rfl (Nat.le_refl _) (fun i j hi hj=>.imm _)) (.imm _) (.imm _) (.imm _) (.imm _) (.imm _) (show Fz _ (a1a n.marks) (a1a n.marks) from .sl _ _ _ _ fun _ _ _ _=>.imm _) (by first | exact .imm _ | exact (show Fz _ (a0r n.expr) (a0r (a5Y (a0U (l.drop (i+1))))) from by rw [b1q hne,ha5];exact .imm _)))) (a1m (by simp [a7H]))
   have hne:(a3K (a0U (l.drop (i+1)))).1=[]:=List.eq_nil_of_length_eq_zero om
   refine ru 15 ?_
   refine a0f ?_
   refine ru 2 ?_
   refine a4B rfl (a0N rfl rfl ty_54.h rqc rfl rfl) (a0k rfl) [(8001,_)] rfl (a0h rfl a0e) ?_
   rw [←ha3];exact a1r (.agg _ _ _ (by exact q9 (.imm _) (a1z (l:=n.groups) (enc:=fun x _=>a0r x) (d:=[]) (List.mem_cons_self ..) rfl rfl (Nat.le_refl _) (fun i j hi hj=>.imm _)) (.imm _) (.imm _) (.imm _) (.imm _) (.imm _) (show Fz _ (a1a n.marks) (a1a n.marks) from .sl _ _ _ _ fun _ _ _ _=>.imm _) (by first | exact .imm _ | exact (show Fz _ (a0r n.expr) (a0r (a5Y (a0U (l.drop (i+1))))) from by rw [b1q hne,ha5];exact .imm _)))) (a1m (by simp [a7H]))
  have hv58:v_≠[58]:=(by simpa using hr1);obtain ⟨⟨W_,V_,H_⟩,hC_⟩:∃ q,a3R 61 v_=q:=⟨_,rfl⟩;have hcut:a0t Tryz.prog 65 [a0r v_] (c1E (W_,V_,H_)):=(by rw [←hC_];exact b9z v_ hvl);have hVl:V_.length≤1000000:=(by have:=a4h 61 v_;rw [hC_] at this;have h9:V_.length≤v_.length:=this;omega)
  refine ru 8 ?_
  refine rvl (a0r v_) ((by rw [←hv_];first | done | rfl)) ?_
  refine cll (hcut) ?_
  refine ru 13 ?_
  refine hq_ 63 (a0y (xs:=[_,_]) (pre:=[(8002,_)]) (b1N gm met W_ om) ⟨rfl,⟨rfl,trivial⟩⟩) rfl rfl (a0h rfl a0e) rfl rfl ?_
  refine ru 8 ?_
  refine a0p 67 (a0b (id:=67) (hs:=[_]) ei_44.h omx rfl omx ⟨rfl,rfl,rfl,rfl,trivial⟩) rfl rfl a0e rfl rfl (c':=c+1) rfl ?_
  first
  | refine a0p 68 (a0a ei_44.h (by first | exact Nat.le_of_ble_eq_true rfl | omega | (dsimp only;omega) | (simp <;> omega)) rfl (by first | exact Nat.le_of_ble_eq_true rfl | omega | (dsimp only;omega) | (simp <;> omega)) (by first | exact Nat.le_of_ble_eq_true rfl | omega | (dsimp only;omega) | (simp <;> omega)) (a0s rfl (by first | exact Nat.le_of_ble_eq_true rfl | omega | (dsimp only;omega) | (simp <;> omega))) (by first | exact Nat.le_of_ble_eq_true rfl | omega | (dsimp only;omega) | (simp <;> omega)) rfl) rfl rfl (a0h rfl (a0B rfl)) rfl rfl (c':=c+2) rfl ?_
  | refine a0p 68 (a0a ei_44.h (by first | exact Nat.le_of_ble_eq_true rfl | omega | (dsimp only;omega) | (simp <;> omega)) rfl (by first | exact Nat.le_of_ble_eq_true rfl | omega | (dsimp only;omega) | (simp <;> omega)) (by first | exact Nat.le_of_ble_eq_true rfl | omega | (dsimp only;omega) | (simp <;> omega)) (a0D rfl (by first | exact Nat.le_of_ble_eq_true rfl | omega | (dsimp only;omega) | (simp <;> omega))) (by first | exact Nat.le_of_ble_eq_true rfl | omega | (dsimp only;omega) | (simp <;> omega)) rfl) rfl rfl (a0h rfl (a0B rfl)) rfl rfl (c':=c+2) rfl ?_
  | refine a0p 68 (a0a ei_44.h (by first | exact Nat.le_of_ble_eq_true rfl | omega | (dsimp only;omega) | (simp <;> omega)) rfl (by first | exact Nat.le_of_ble_eq_true rfl | omega | (dsimp only;omega) | (simp <;> omega)) (by first | exact Nat.le_of_ble_eq_true rfl | omega | (dsimp only;omega) | (simp <;> omega)) (a0C rfl) (by first | exact Nat.le_of_ble_eq_true rfl | omega | (dsimp only;omega) | (simp <;> omega)) rfl) rfl rfl (a0h rfl a0e) rfl rfl (c':=c+2) rfl ?_
  | refine a0p 68 (a0a ei_44.h (by first | exact Nat.le_of_ble_eq_true rfl | omega | (dsimp only;omega) | (simp <;> omega)) rfl (by first | exact Nat.le_of_ble_eq_true rfl | omega | (dsimp only;omega) | (simp <;> omega)) (by first | exact Nat.le_of_ble_eq_true rfl | omega | (dsimp only;omega) | (simp <;> omega)) (a0u 1 (fun _ _=>default) rfl) (by first | exact Nat.le_of_ble_eq_true rfl | omega | (dsimp only;omega) | (simp <;> omega)) rfl) rfl rfl (a0h rfl a0e) rfl rfl (c':=c+2) rfl ?_
  refine ru 15 ?_
  refine wdc (fun hr3 hc3=>?_) (fun hr3 hc3=>?_)
  ·skip
   have hO:a2y W_ H_=0∧W_=a1S:=(by have h9:W_=a1S∧H_=true:=(by simpa using hc3);unfold a2y;rw [if_pos ⟨h9.1.symm,h9.2.symm⟩];exact ⟨rfl,h9.1⟩)
   refine ru 3 ?_
   refine cll (a9K V_ hVl) ?_
   refine ru 4 ?_
   first
   | refine a4c 81 2 77 true _ (fun hb=>a0y (xs:=[_,_]) (pre:=[(8001,_)]) (a9F g n.groups V_ (by omega)) ⟨rfl,⟨rfl,trivial⟩⟩) rfl rfl rfl rfl (a0h rfl a0e) rfl rfl rfl ?_
   | refine a3z 81 2 77 _ _ true _ (fun hb=>a0y (xs:=[_,_]) (pre:=[(8001,_)]) (a9F g n.groups V_ (by omega)) ⟨rfl,⟨rfl,trivial⟩⟩) rfl rfl rfl rfl (a0h rfl a0e) rfl rfl rfl ?_
   refine ru 15 ?_
   refine a0p 93 (a0b (id:=93) (hs:=[_]) ei_44.h omx rfl omx ⟨rfl,rfl,rfl,rfl,trivial⟩) rfl rfl a0e rfl rfl (c':=c+3) rfl ?_
   first
   | refine a0p 94 (a0a ei_44.h (by first | exact Nat.le_of_ble_eq_true rfl | omega | (dsimp only;omega) | (simp <;> omega)) rfl (by first | exact Nat.le_of_ble_eq_true rfl | omega | (dsimp only;omega) | (simp <;> omega)) (by first | exact Nat.le_of_ble_eq_true rfl | omega | (dsimp only;omega) | (simp <;> omega)) (a0s rfl (by first | exact Nat.le_of_ble_eq_true rfl | omega | (dsimp only;omega) | (simp <;> omega))) (by first | exact Nat.le_of_ble_eq_true rfl | omega | (dsimp only;omega) | (simp <;> omega)) rfl) rfl rfl (a0h rfl (a0B rfl)) rfl rfl (c':=c+4) rfl ?_
   | refine a0p 94 (a0a ei_44.h (by first | exact Nat.le_of_ble_eq_true rfl | omega | (dsimp only;omega) | (simp <;> omega)) rfl (by first | exact Nat.le_of_ble_eq_true rfl | omega | (dsimp only;omega) | (simp <;> omega)) (by first | exact Nat.le_of_ble_eq_true rfl | omega | (dsimp only;omega) | (simp <;> omega)) (a0D rfl (by first | exact Nat.le_of_ble_eq_true rfl | omega | (dsimp only;omega) | (simp <;> omega))) (by first | exact Nat.le_of_ble_eq_true rfl | omega | (dsimp only;omega) | (simp <;> omega)) rfl) rfl rfl (a0h rfl (a0B rfl)) rfl rfl (c':=c+4) rfl ?_
   | refine a0p 94 (a0a ei_44.h (by first | exact Nat.le_of_ble_eq_true rfl | omega | (dsimp only;omega) | (simp <;> omega)) rfl (by first | exact Nat.le_of_ble_eq_true rfl | omega | (dsimp only;omega) | (simp <;> omega)) (by first | exact Nat.le_of_ble_eq_true rfl | omega | (dsimp only;omega) | (simp <;> omega)) (a0C rfl) (by first | exact Nat.le_of_ble_eq_true rfl | omega | (dsimp only;omega) | (simp <;> omega)) rfl) rfl rfl (a0h rfl a0e) rfl rfl (c':=c+4) rfl ?_
   | refine a0p 94 (a0a ei_44.h (by first | exact Nat.le_of_ble_eq_true rfl | omega | (dsimp only;omega) | (simp <;> omega)) rfl (by first | exact Nat.le_of_ble_eq_true rfl | omega | (dsimp only;omega) | (simp <;> omega)) (by first | exact Nat.le_of_ble_eq_true rfl | omega | (dsimp only;omega) | (simp <;> omega)) (a0u 1 (fun _ _=>default) rfl) (by first | exact Nat.le_of_ble_eq_true rfl | omega | (dsimp only;omega) | (simp <;> omega)) rfl) rfl rfl (a0h rfl a0e) rfl rfl (c':=c+4) rfl ?_
   refine ru 11 ?_
   refine wdc (fun hr8 hc8=>?_) (fun hr8 hc8=>?_)
   ·skip
    have hq8:=hr8;have hR:(a1y (a2y W_ H_) n V_).2=false:=(by rw [hO.1];unfold a1y;rw [if_pos rfl,if_neg (fun h=>by obtain ⟨h1,h2,h3⟩:=h;simp [h1,h2] at hq8;omega)]);have hbad:=a1J (r:=l.drop (i+1)) (met:=met) (n:=n) hv58 hC_ (.inr (.inr hR))
    refine ru 10 ?_
    refine a0f ?_
    refine ru 2 ?_
    refine rt2 ?_
    rw [←ha3,hbad];exact a1r (.agg _ _ _ (by exact q9 (.imm _) (.nil _ _ _ (by decide) _) (.imm _) (.imm _) (.imm _) (.imm _) (.imm _) (.nil _ _ _ (by decide) _) (.imm _))) (.imm _)
   have hq8:=hr8;have hR:a1y (a2y W_ H_) n V_=({ n with groups:=n.groups++[V_] },true):=(by rw [hO.1];unfold a1y;rw [if_pos rfl,if_pos (by simp at hq8;exact ⟨hq8.1.1,hq8.1.2,by omega⟩)]);have hg4:n.groups.length < 4:=(by simp at hq8;omega);have hon:=a1Y (r:=l.drop (i+1)) (met:=met) (n:=n) hv58 hC_ (by rw [hR,hO.1];rintro (h | h | h);omega;exact h.2 hO.2;cases h);rw [ha3,hR] at hon
   refine ru 8 ?_
   exact hL1 ((i+1,{ n with groups:=n.groups++[V_] },met++[W_],_,_)) _ _ (by (try dsimp only);exact ⟨by omega,by omega,by simp;omega,by simp;omega,ha5,hon.symm⟩) (by (try dsimp only);omega) (a0c rfl (Nat.le_refl _) (tsr rfl (tsr rfl (tsr rfl (a0E.cons rfl (a1G (by simp)) tsa)))) (hsr rfl (a0j.cons rfl (a7Z (by exact q9 (.refl _) (a1G (by simp)) (.refl _) (.refl _) (.refl _) (.refl _) (.refl _) (.refl _) (.refl _))) (a0j.cons rfl (a0w (enc:=fun x _=>a0r x) (d:=[]) rfl (fun i j hi hj=>.refl _) (fun j hj=>.refl _)) (a0j.cons rfl (a0w (enc:=fun x _=>a0r x) (d:=[]) rfl (fun i j hi hj=>.refl _) (fun j hj=>.refl _)) a0j.nil)))))
  have hO3:¬ (a1S=W_∧true=H_):=(fun h=>by have h9:=hr3;simp [←h.1,←h.2] at h9)
  refine ru 11 ?_
  refine wdc (fun hr4 hc4=>?_) (fun hr4 hc4=>?_)
  ·skip
   have hO:a2y W_ H_=1∧W_≠a1S:=(by have h9:W_=c1L∧H_=false:=(by simpa using hc4);unfold a2y;rw [if_neg hO3,if_pos ⟨h9.1.symm,h9.2.symm⟩];exact ⟨rfl,by rw [h9.1];decide⟩)
   refine ru 12 ?_
   refine wdc (fun hr8 hc8=>?_) (fun hr8 hc8=>?_)
   ·skip
    have hR:a1y (a2y W_ H_) n V_=({ n with inl:=true },true):=(by rw [hO.1];first | done | rfl);have hq8:=hr8;have hbad:=a1J (r:=l.drop (i+1)) (met:=met) (n:=n) hv58 hC_ (by rw [hR];exact .inr (.inl ⟨by simpa using hq8,hO.2⟩))
    refine ru 10 ?_
    refine a0f ?_
    refine ru 2 ?_
    refine rt2 ?_
    rw [←ha3,hbad];exact a1r (.agg _ _ _ (by exact q9 (.imm _) (.nil _ _ _ (by decide) _) (.imm _) (.imm _) (.imm _) (.imm _) (.imm _) (.nil _ _ _ (by decide) _) (.imm _))) (.imm _)
   have hR:a1y (a2y W_ H_) n V_=({ n with inl:=true },true):=(by rw [hO.1];first | done | rfl);have hq8:=hr8;have hon:=a1Y (r:=l.drop (i+1)) (met:=met) (n:=n) hv58 hC_ (by rw [hR,hO.1];rintro (h | h | h);omega;exact absurd h.1 (by simpa using hq8);cases h);rw [ha3,hR] at hon
   refine ru 8 ?_
   exact hL1 ((i+1,{ n with inl:=true },met++[W_],g,_)) _ _ (by (try dsimp only);exact ⟨by omega,by omega,by simp;omega,ha2,ha5,hon.symm⟩) (by (try dsimp only);omega) (a0c rfl (Nat.le_refl _) (tsr rfl (tsr rfl (tsr rfl (a0E.cons rfl (a1G (by simp)) tsa)))) (hsr rfl (a0j.cons rfl (a7Z (by exact q9 (.refl _) (.refl _) (.refl _) (.refl _) (.refl _) (.refl _) (.refl _) (.refl _) (.refl _))) (hsr rfl (a0j.cons rfl (a0w (enc:=fun x _=>a0r x) (d:=[]) rfl (fun i j hi hj=>.refl _) (fun j hj=>.refl _)) a0j.nil)))))
  have hO4:¬ (c1L=W_∧false=H_):=(fun h=>by have h9:=hr4;simp [←h.1,←h.2] at h9)
  refine ru 11 ?_
  refine wdc (fun hr5 hc5=>?_) (fun hr5 hc5=>?_)
  ·skip
   have hO:a2y W_ H_=2∧W_≠a1S:=(by have h9:W_=b3X∧H_=false:=(by simpa using hc5);unfold a2y;rw [if_neg hO3,if_neg hO4,if_pos ⟨h9.1.symm,h9.2.symm⟩];exact ⟨rfl,by rw [h9.1];decide⟩)
   refine ru 12 ?_
   refine wdc (fun hr8 hc8=>?_) (fun hr8 hc8=>?_)
   ·skip
    have hR:a1y (a2y W_ H_) n V_=({ n with pick:=true },true):=(by rw [hO.1];first | done | rfl);have hq8:=hr8;have hbad:=a1J (r:=l.drop (i+1)) (met:=met) (n:=n) hv58 hC_ (by rw [hR];exact .inr (.inl ⟨by simpa using hq8,hO.2⟩))
    refine ru 10 ?_
    refine a0f ?_
    refine ru 2 ?_
    refine rt2 ?_
    rw [←ha3,hbad];exact a1r (.agg _ _ _ (by exact q9 (.imm _) (.nil _ _ _ (by decide) _) (.imm _) (.imm _) (.imm _) (.imm _) (.imm _) (.nil _ _ _ (by decide) _) (.imm _))) (.imm _)
   have hR:a1y (a2y W_ H_) n V_=({ n with pick:=true },true):=(by rw [hO.1];first | done | rfl);have hq8:=hr8;have hon:=a1Y (r:=l.drop (i+1)) (met:=met) (n:=n) hv58 hC_ (by rw [hR,hO.1];rintro (h | h | h);omega;exact absurd h.1 (by simpa using hq8);cases h);rw [ha3,hR] at hon
   refine ru 8 ?_
   exact hL1 ((i+1,{ n with pick:=true },met++[W_],g,_)) _ _ (by (try dsimp only);exact ⟨by omega,by omega,by simp;omega,ha2,ha5,hon.symm⟩) (by (try dsimp only);omega) (a0c rfl (Nat.le_refl _) (tsr rfl (tsr rfl (tsr rfl (a0E.cons rfl (a1G (by simp)) tsa)))) (hsr rfl (a0j.cons rfl (a7Z (by exact q9 (.refl _) (.refl _) (.refl _) (.refl _) (.refl _) (.refl _) (.refl _) (.refl _) (.refl _))) (hsr rfl (a0j.cons rfl (a0w (enc:=fun x _=>a0r x) (d:=[]) rfl (fun i j hi hj=>.refl _) (fun j hj=>.refl _)) a0j.nil)))))
  have hO5:¬ (b3X=W_∧false=H_):=(fun h=>by have h9:=hr5;simp [←h.1,←h.2] at h9)
  refine ru 10 ?_
  refine wdc (fun hr6 hc6=>?_) (fun hr6 hc6=>?_)
  ·skip
   have hO:a2y W_ H_=3∧W_≠a1S:=(by have h9:W_=b4b∧H_=true:=(by simpa using hc6);unfold a2y;rw [if_neg hO3,if_neg hO4,if_neg hO5,if_pos ⟨h9.1.symm,h9.2.symm⟩];exact ⟨rfl,by rw [h9.1];decide⟩)
   refine ru 3 ?_
   refine cll (b2W V_ hVl) ?_
   refine ru 21 ?_
   refine wdc (fun hr8 hc8=>?_) (fun hr8 hc8=>?_)
   ·skip
    have hR:a1y (a2y W_ H_) n V_=({ n with attr:=(a2U V_).getD 0 },(a1v V_).isSome):=(by rw [hO.1];first | done | rfl);have hq8:=hr8;have hbad:=a1J (r:=l.drop (i+1)) (met:=met) (n:=n) hv58 hC_ (by rw [hR];have hvd:=a6M V_;by_cases hm:W_∈met;exact .inr (.inl ⟨hm,hO.2⟩);(refine .inr (.inr ?_);cases hs:(a1v V_).isSome;rfl;exfalso;rw [hs] at hvd;simp [hm] at hq8;simp at hvd;omega))
    refine ru 10 ?_
    refine a0f ?_
    refine ru 2 ?_
    refine rt2 ?_
    rw [←ha3,hbad];exact a1r (.agg _ _ _ (by exact q9 (.imm _) (.nil _ _ _ (by decide) _) (.imm _) (.imm _) (.imm _) (.imm _) (.imm _) (.nil _ _ _ (by decide) _) (.imm _))) (.imm _)
   have hR:a1y (a2y W_ H_) n V_=({ n with attr:=(a2U V_).getD 0 },(a1v V_).isSome):=(by rw [hO.1];first | done | rfl);have hq8:=hr8;have hvs:(a1v V_).isSome=true:=(by rw [←a6M];simp at hq8;omega);have hon:=a1Y (r:=l.drop (i+1)) (met:=met) (n:=n) hv58 hC_ (by rw [hR,hO.1];rintro (h | h | h);omega;(simp at hq8;exact hq8.1 h.1);(rw [hvs] at h;cases h));rw [ha3,hR] at hon
   refine ru 8 ?_
   exact hL1 ((i+1,{ n with attr:=(a2U V_).getD 0 },met++[W_],g,_)) _ _ (by (try dsimp only);exact ⟨by omega,by omega,by simp;omega,ha2,ha5,hon.symm⟩) (by (try dsimp only);omega) (a0c rfl (Nat.le_refl _) (tsr rfl (tsr rfl (tsr rfl (a0E.cons rfl (a1G (by simp)) tsa)))) (hsr rfl (a0j.cons rfl (a7Z (by exact q9 (.refl _) (.refl _) (.refl _) (.refl _) (.refl _) (a0S (b3g hvs)) (.refl _) (.refl _) (.refl _))) (hsr rfl (a0j.cons rfl (a0w (enc:=fun x _=>a0r x) (d:=[]) rfl (fun i j hi hj=>.refl _) (fun j hj=>.refl _)) a0j.nil)))))
  have hO6:¬ (b4b=W_∧true=H_):=(fun h=>by have h9:=hr6;simp [←h.1,←h.2] at h9)
  refine ru 10 ?_
  refine wdc (fun hr7 hc7=>?_) (fun hr7 hc7=>?_)
  ·skip
   have hO:a2y W_ H_=4∧W_≠a1S:=(by have h9:W_=a7N∧H_=true:=(by simpa using hc7);unfold a2y;rw [if_neg hO3,if_neg hO4,if_neg hO5,if_neg hO6,if_pos ⟨h9.1.symm,h9.2.symm⟩];exact ⟨rfl,by rw [h9.1];decide⟩)
   refine ru 3 ?_
   refine cll (b7d V_ hVl) ?_
   refine ru 38 ?_
   refine wdc (fun hr8 hc8=>?_) (fun hr8 hc8=>?_)
   ·skip
    have hR:a1y (a2y W_ H_) n V_=({ n with all:=((a0T V_).getD (false,[])).1,marks:=((a0T V_).getD (false,[])).2 },(a0T V_).isSome):=(by rw [hO.1];first | done | rfl);have hq8:=hr8;have hbad:=a1J (r:=l.drop (i+1)) (met:=met) (n:=n) hv58 hC_ (by rw [hR];by_cases hm:W_∈met;exact .inr (.inl ⟨hm,hO.2⟩);(refine .inr (.inr ?_);cases hs:(a0T V_).isSome;rfl;exfalso;rw [hs] at hq8;simp [hm] at hq8))
    refine ru 10 ?_
    refine a0f ?_
    refine ru 2 ?_
    refine rt2 ?_
    rw [←ha3,hbad];exact a1r (.agg _ _ _ (by exact q9 (.imm _) (.nil _ _ _ (by decide) _) (.imm _) (.imm _) (.imm _) (.imm _) (.imm _) (.nil _ _ _ (by decide) _) (.imm _))) (.imm _)
   have hR:a1y (a2y W_ H_) n V_=({ n with all:=((a0T V_).getD (false,[])).1,marks:=((a0T V_).getD (false,[])).2 },(a0T V_).isSome):=(by rw [hO.1];first | done | rfl);have hq8:=hr8;have hon:=a1Y (r:=l.drop (i+1)) (met:=met) (n:=n) hv58 hC_ (by rw [hR,hO.1];rintro (h | h | h);omega;(simp at hq8;exact hq8.1 h.1);(have h:(a0T V_).isSome=false:=h;rw [h] at hq8;simp at hq8));rw [ha3,hR] at hon
   refine ru 8 ?_
   exact hL1 ((i+1,{ n with all:=((a0T V_).getD (false,[])).1,marks:=((a0T V_).getD (false,[])).2 },met++[W_],g,_)) _ _ (by (try dsimp only);exact ⟨by omega,by omega,by simp;omega,ha2,ha5,hon.symm⟩) (by (try dsimp only);omega) (a0c rfl (Nat.le_refl _) (tsr rfl (tsr rfl (tsr rfl (a0E.cons rfl (a1G (by simp)) tsa)))) (hsr rfl (a0j.cons rfl (a7Z (by exact q9 (.refl _) (.refl _) (.refl _) (.refl _) (.refl _) (.refl _) (.refl _) (.refl _) (.refl _))) (hsr rfl (a0j.cons rfl (a0w (enc:=fun x _=>a0r x) (d:=[]) rfl (fun i j hi hj=>.refl _) (fun j hj=>.refl _)) a0j.nil)))))
  have hO7:¬ (a7N=W_∧true=H_):=(fun h=>by have h9:=hr7;simp [←h.1,←h.2] at h9);have hO:a2y W_ H_=-1:=(by unfold a2y;rw [if_neg hO3,if_neg hO4,if_neg hO5,if_neg hO6,if_neg hO7])
  refine ru 11 ?_
  refine wdc (fun hr8 hc8=>?_) (fun hr8 hc8=>?_)
  ·skip
   have hbad:=a1J (r:=l.drop (i+1)) (met:=met) (n:=n) hv58 hC_ (.inl om)
   refine ru 10 ?_
   refine a0f ?_
   refine ru 2 ?_
   refine rt2 ?_
   rw [←ha3,hbad];exact a1r (.agg _ _ _ (by exact q9 (.imm _) (.nil _ _ _ (by decide) _) (.imm _) (.imm _) (.imm _) (.imm _) (.imm _) (.nil _ _ _ (by decide) _) (.imm _))) (.imm _)
  exfalso;simp at hr8
 rw [List.drop_of_length_le (show l.length≤i by omega)] at ha3
 refine ru 2 ?_
 refine a0d ?_
 refine ru 10 ?_
 refine a4B rfl (a0N rfl rfl ty_54.h rqc rfl rfl) (a0k rfl) [(8001,_)] rfl (a0h rfl a0e) ?_
 rw [←ha3];exact a1r (.agg _ _ _ (by exact q9 (.imm _) (a1z (l:=n.groups) (enc:=fun x _=>a0r x) (d:=[]) (List.mem_cons_self ..) rfl rfl (Nat.le_refl _) (fun i j hi hj=>.imm _)) (.imm _) (.imm _) (.imm _) (.imm _) (.imm _) (show Fz _ (a1a n.marks) (a1a n.marks) from .sl _ _ _ _ fun _ _ _ _=>.imm _) (.imm _))) (.imm _)
@[reducible] def b8z (g:Nat) (l:List Nd):HObj:=⟨g,l.length,9,54,0,b4f l⟩
@[reducible] def b7I (g:Nat) (l:List Mk):HObj:=⟨g,l.length,4,57,0,b4F l⟩
@[reducible] def c2F (g g1 n1 g2 n2:Nat):HObj:=⟨g,1,2,33,0,fun _=>dcG g1 n1 g2 n2⟩
@[reducible] def rzO (g:Nat):HObj:=⟨g,1,2,33,0,fun _=>zDc⟩
theorem b9G {α:Type} {q:α→Bool} {l:List α} {d:α} (h:∀ j,j < l.length→q (l.getD j d)=false):l.any q=false:=by
 rw [←b1E,a5T h];rfl
theorem b9e {α:Type} {q:α→Bool} {l:List α} {d:α} {k:Nat} (hk:k < l.length) (h:q (l.getD k d)=true):l.any q=true:=by
 rw [List.any_eq_true]
 refine ⟨l[k],List.getElem_mem hk,?_⟩
 rw [List.getD_eq_getElem?_getD,List.getElem?_eq_getElem hk] at h
 exact h
theorem b8Z {d:Dc} {l:List Bs} (h:l.length < 2∨a2P (l.getD 1 [])=false∨(l.getD 0 []≠a8T∧l.getD 0 []≠b1Y)):a1I d l=(d,2):=by
 unfold a1I
 by_cases h1:l.length < 2∨a2P (l.getD 1 [])=false
 ·rw [if_pos h1]
 ·rcases h with h | h | h
  ·exact absurd (.inl h) h1
  ·exact absurd (.inr h) h1
  ·rw [if_neg h1,if_neg h.1,if_neg h.2]
theorem a5h {kp sh:List (Nat×HObj)} {g1 n1 n1' g2 n2 n2':Nat} {F:Nat→HV} {o1 o2:HObj} (f0:F 0=.os 8101 g1 0 n1) (f1:F 1=.os 8102 g2 0 n2) (k1:n1=n1':=by rfl) (k2:n2=n2':=by rfl) (h1:hget kp 8101=some o1:=by rfl) (e1:o1.g=g1:=by rfl) (h2:hget kp 8102=some o2:=by rfl) (e2:o2.g=g2:=by rfl):Kz kp sh (.agg 2 F) (.agg 2 (dcG g1 n1' g2 n2')):=by
 subst k1;subst k2
 exact .agg _ _ _ fun j hj=>by
  match j,hj with
  | 0,_=>rw [f0];exact .os _ _ _ _ _ h1 e1
  | 1,_=>rw [f1];exact .os _ _ _ _ _ h2 e2
theorem a5u {kp sh:List (Nat×HObj)} {g:Nat} {l:List Nd}:OKz kp sh (b8z g l) (b8z g l):=.of fun i j hi hj=>.fz _ _ (a4e _ j hj)
theorem a5N {kp sh:List (Nat×HObj)} {g:Nat} {l:List Mk}:OKz kp sh (b7I g l) (b7I g l):=.of fun i j hi hj=>.fz _ _ (a4q _ j hj)
theorem c1R (k0 g1 g2:Nat) (d:Dc) (l:List Bs) (hd:d.nodes.length≤24∧d.marks.length≤8) (hl:l.length≤100000) (hw:∀ w∈l,w.length≤100000) (hj:(a0U l).length≤1000000):a3k Tryz.prog 21 k0 [.agg 2 (dcG g1 d.nodes.length g2 d.marks.length),a1a l] [(8101,b8z g1 d.nodes),(8102,b7I g2 d.marks)]
  (a5r (fun (q:Nat×Nat) _=>True) (fun q=>t2 (.agg 2 (dcG q.1 (a1I d l).1.nodes.length q.2 (a1I d l).1.marks.length)) (a0g (a1I d l).2)) (fun q=>[(8101,b8z q.1 (a1I d l).1.nodes),(8102,b7I q.2 (a1I d l).1.marks)])):=by
 have hw1:∀ i,(l.getD i []).length≤1000000:=fun i=>by
  rcases Nat.lt_or_ge i l.length with h | h
  ·have:=hw (l.getD i []) (a1X h);omega
  ·rw [List.getD_eq_getElem?_getD,List.getElem?_eq_none h];exact Nat.zero_le _
 refine a0v Tryz.func21 rfl kr _ _ _ _ rfl 117 rfl rfl (fun X ok hX=>?_)
 refine ru 17 ?_
 refine ry (a0r (l.getD 1 [])) rfl (fun hb=>rfl) ?_
 first
 | refine stg 15 (fun hb=>a0l (xs:=[_]) (a9K (l.getD 1 []) (hw1 1)) ⟨rfl,trivial⟩ ⟨(Fz.eq rfl),trivial⟩) rfl rfl rfl rfl rfl ?_
 | refine sth 15 (fun hb=>a0l (xs:=[_]) (a9K (l.getD 1 []) (hw1 1)) ⟨rfl,trivial⟩ ⟨(Fz.eq rfl),trivial⟩) rfl rfl rfl rfl rfl ?_
 refine ru 6 ?_
 refine ry (a0r (l.getD 0 [])) rfl (fun hb=>rfl) ?_
 refine ru 5 ?_
 refine ry3 (a0r (l.getD 0 [])) rfl rfl (fun hb hb2=>rfl) ?_
 refine ru 5 ?_
 refine wdc (fun hr0 hc0=>?_) (fun hr0 hc0=>?_)
 ·skip
  have hA:a1I d l=(d,2):=(b8Z (by rcases hc0 with (h | h) | h;exact .inl om;exact .inr (.inl h);exact .inr (.inr h)))
  refine ru 9 ?_
  refine fr2 ok hX rw2 ((g1,g2)) (trivial) ((by rw [hA];exact a7J (a5h rfl rfl) (a1D rfl))) ?_
  exact ⟨⟨_,rfl,(by rw [hA];exact a5u)⟩,⟨⟨_,rfl,(by rw [hA];exact a5N)⟩,trivial⟩⟩
 have h0:¬ (l.length < 2∨a2P (l.getD 1 [])=false):=(by have h9:=hc0;rintro (h | h);exact absurd h9.1.1 om;rw [h] at h9;simp at h9);have hnm:l.getD 0 []=a8T∨l.getD 0 []=b1Y:=(by by_cases a_:l.getD 0 []=a8T;exact .inl a_;by_cases b_:l.getD 0 []=b1Y;exact .inr b_;exfalso;have h9:=hr0;simp only [decide_eq_false a_,decide_eq_false b_,Bool.not_false] at h9;first | (simp at h9;done) | (rw [Bool.or_eq_false_iff] at h9;exact absurd h9.2 (by decide)));have hl2:2≤l.length:=(by rcases Nat.lt_or_ge l.length 2 with h | h;exact absurd (.inl h) h0;exact h)
 refine ru 8 ?_
 refine rvl (a0r (l.getD 0 [])) (rfl) ?_
 refine ru 3 ?_
 refine wdc (fun hr1 hc1=>?_) (fun hr1 hc1=>?_)
 ·skip
  have hm:l.getD 0 []=b1Y:=(by simpa using hr1);have hn:l.getD 0 []≠a8T:=(by rw [hm];decide)
  refine ru 3 ?_
  refine cll (b9S l ⟨hl2,hl⟩ hw) ?_
  refine ru 15 ?_
  refine wdc (fun hr2 hc2=>?_) (fun hr2 hc2=>?_)
  ·skip
   have hA:a1I d l=(d,2):=(by unfold a1I;rw [if_neg h0,if_neg hn,if_pos hm,if_pos (by simpa using hr2)])
   refine ru 10 ?_
   refine fr2 ok hX rw2 ((g1,g2)) (trivial) ((by rw [hA];exact a7J (a5h rfl rfl) (a1D rfl))) ?_
   exact ⟨⟨_,rfl,(by rw [hA];exact a5u)⟩,⟨⟨_,rfl,(by rw [hA];exact a5N)⟩,trivial⟩⟩
  have hok:¬ (a4G l).2=false:=(by simpa using hr2)
  refine ru 9 ?_
  refine a0o (α:=Nat) (fun x c=>⟨117,[(1,.v (a1a l)),(2,.v (.pt 2 k0 0 0)),(4,.v (.pt 4 (k0+1) 0 0)),(6,.v (.pt 6 (k0+2) 0 0)),(8,.v (a0g x))],[(2,c2F k0 g1 d.nodes.length g2 d.marks.length),(4,rzO (k0+1)),(6,⟨k0+2,1,4,57,0,fun _=>a6n (a4G l).1⟩),(8101,b8z g1 d.nodes),(8102,b7I g2 d.marks)],c⟩) (fun x=>x≤d.marks.length∧∀ i,i < x→decide ((d.marks.getD i default).name=(a4G l).1.name)=false) (fun x=>d.marks.length - x) (0) (by exact ⟨Nat.zero_le _,fun i h=>absurd h (Nat.not_lt_zero _)⟩) (a0c rfl (Nat.le_refl _) tsa (a0j.cons rfl (a2J (.refl _) (.refl _)) (a0j.cons rfl (a2J (.refl _) (.refl _)) (a0j.cons rfl (a9a (by exact qm4 (.refl _) (.refl _) (.refl _) (.refl _))) hsa)))) (fun k c hx NhL1 hL1=>?_)
  (try dsimp only at hx hL1 ⊢)
  obtain ⟨hk,hE⟩:=hx
  refine ru 10 ?_
  refine wdc (fun hr3 hc3=>?_) (fun hr3 hc3=>?_)
  ·refine ru 11 ?_
   first
   | refine a3y 59 (HOp.val (v':=a0r (d.marks.getD k default).name) (a0H ty_9.h rfl (by first | exact Nat.le_of_ble_eq_true rfl | omega | (dsimp only;omega) | (simp <;> omega)) (by first | exact Nat.le_of_ble_eq_true rfl | omega | (dsimp only;omega) | (simp <;> omega)) (fun h=>(by first | rfl | cases h))) ((by simp only [Nat.zero_add];rfl))) rfl rfl (a0B rfl) rfl rfl (k':=6) rfl ?_
   | refine a3y 59 (HOp.val (v':=a0r (d.marks.getD k default).name) (a0q ty_9.h rfl (by first | exact Nat.le_of_ble_eq_true rfl | omega | (dsimp only;omega) | (simp <;> omega)) (fun h=>(by first | rfl | cases h))) ((by simp only [Nat.zero_add];rfl))) rfl rfl a0e rfl rfl (k':=6) rfl ?_
   refine ru 5 ?_
   refine wdc (fun hr4 hc4=>?_) (fun hr4 hc4=>?_)
   ·skip
    have hA:a1I d l=(d,9):=(by unfold a1I;rw [if_neg h0,if_neg hn,if_pos hm,if_neg hok,if_pos (b9e (d:=default) (k:=k) om hr4)])
    refine ru 10 ?_
    refine a0f ?_
    refine ru 3 ?_
    refine fr2 ok hX rw2 ((g1,g2)) (trivial) ((by rw [hA];exact a7J (a5h rfl rfl) (a1D rfl))) ?_
    exact ⟨⟨_,rfl,(by rw [hA];exact a5u)⟩,⟨⟨_,rfl,(by rw [hA];exact a5N)⟩,trivial⟩⟩
   refine ru 8 ?_
   exact hL1 (k+1) _ _ (by (try dsimp only);exact ⟨by omega,fun i hi=>by by_cases e:i=k;(subst e;exact hr4);exact hE i om⟩) (by (try dsimp only);omega) (a0c rfl (Nat.le_refl _) tsa hsa)
  have hn7:¬ (d.marks.any fun o=>decide (o.name=(a4G l).1.name))=true:=(by rw [b9G (d:=default) (fun j hj=>hE j om)];simp)
  refine ru 2 ?_
  refine a0d ?_
  refine ru 11 ?_
  refine wdc (fun hr5 hc5=>?_) (fun hr5 hc5=>?_)
  ·skip
   have hA:a1I d l=(d,4):=(by unfold a1I;rw [if_neg h0,if_neg hn,if_pos hm,if_neg hok,if_neg hn7,if_pos om])
   refine ru 10 ?_
   refine fr2 ok hX rw2 ((g1,g2)) (trivial) ((by rw [hA];exact a7J (a5h rfl rfl) (a1D rfl))) ?_
   exact ⟨⟨_,rfl,(by rw [hA];exact a5u)⟩,⟨⟨_,rfl,(by rw [hA];exact a5N)⟩,trivial⟩⟩
  have hA:a1I d l=(⟨d.nodes,d.marks++[(a4G l).1]⟩,0):=(by unfold a1I;rw [if_neg h0,if_neg hn,if_pos hm,if_neg hok,if_neg hn7,if_neg om])
  refine ru 7 ?_
  refine a0p 72 (a0b (id:=72) (hs:=[_]) ei_31.h omx rfl omx ⟨rfl,rfl,rfl,rfl,trivial⟩) rfl rfl a0e rfl rfl (c':=c+1) rfl ?_
  first
  | refine a0p 73 (a0a ei_31.h (by first | exact Nat.le_of_ble_eq_true rfl | omega | (dsimp only;omega) | (simp <;> omega)) rfl (by first | exact Nat.le_of_ble_eq_true rfl | omega | (dsimp only;omega) | (simp <;> omega)) (by first | exact Nat.le_of_ble_eq_true rfl | omega | (dsimp only;omega) | (simp <;> omega)) (a0s rfl (by first | exact Nat.le_of_ble_eq_true rfl | omega | (dsimp only;omega) | (simp <;> omega))) (by first | exact Nat.le_of_ble_eq_true rfl | omega | (dsimp only;omega) | (simp <;> omega)) rfl) rfl rfl (a0h rfl (a0B rfl)) rfl rfl (c':=c+2) rfl ?_
  | refine a0p 73 (a0a ei_31.h (by first | exact Nat.le_of_ble_eq_true rfl | omega | (dsimp only;omega) | (simp <;> omega)) rfl (by first | exact Nat.le_of_ble_eq_true rfl | omega | (dsimp only;omega) | (simp <;> omega)) (by first | exact Nat.le_of_ble_eq_true rfl | omega | (dsimp only;omega) | (simp <;> omega)) (a0D rfl (by first | exact Nat.le_of_ble_eq_true rfl | omega | (dsimp only;omega) | (simp <;> omega))) (by first | exact Nat.le_of_ble_eq_true rfl | omega | (dsimp only;omega) | (simp <;> omega)) rfl) rfl rfl (a0h rfl (a0B rfl)) rfl rfl (c':=c+2) rfl ?_
  | refine a0p 73 (a0a ei_31.h (by first | exact Nat.le_of_ble_eq_true rfl | omega | (dsimp only;omega) | (simp <;> omega)) rfl (by first | exact Nat.le_of_ble_eq_true rfl | omega | (dsimp only;omega) | (simp <;> omega)) (by first | exact Nat.le_of_ble_eq_true rfl | omega | (dsimp only;omega) | (simp <;> omega)) (a0C rfl) (by first | exact Nat.le_of_ble_eq_true rfl | omega | (dsimp only;omega) | (simp <;> omega)) rfl) rfl rfl (a0h rfl a0e) rfl rfl (c':=c+2) rfl ?_
  | refine a0p 73 (a0a ei_31.h (by first | exact Nat.le_of_ble_eq_true rfl | omega | (dsimp only;omega) | (simp <;> omega)) rfl (by first | exact Nat.le_of_ble_eq_true rfl | omega | (dsimp only;omega) | (simp <;> omega)) (by first | exact Nat.le_of_ble_eq_true rfl | omega | (dsimp only;omega) | (simp <;> omega)) (a0u 4 (fun _ _=>default) rfl) (by first | exact Nat.le_of_ble_eq_true rfl | omega | (dsimp only;omega) | (simp <;> omega)) rfl) rfl rfl (a0h rfl a0e) rfl rfl (c':=c+2) rfl ?_
  refine ru 13 ?_
  refine fr2 ok hX rw2 ((g1,c+1)) (trivial) ((by rw [hA];exact a7J (a5h rfl rfl rfl (by simp)) (a1D rfl))) ?_
  exact ⟨⟨_,rfl,(by rw [hA];exact a5u)⟩,⟨⟨_,rfl,(by rw [hA];exact a5D (by simp) a4q (by exact qm4 rfl rfl rfl rfl))⟩,trivial⟩⟩
 have hm:¬ l.getD 0 []=b1Y:=(by simpa using hr1);have hn:l.getD 0 []=a8T:=hnm.resolve_right hm
 refine ru 5 ?_
 refine cll (c0S l ⟨hl2,hl⟩ hw hj) ?_
 refine ru 15 ?_
 refine wdc (fun hr6 hc6=>?_) (fun hr6 hc6=>?_)
 ·skip
  have hA:a1I d l=(d,2):=(by unfold a1I;rw [if_neg h0,if_pos hn,if_pos (by simpa using hr6)])
  refine ru 9 ?_
  refine fr2 ok hX rw2 ((g1,g2)) (trivial) ((by rw [hA];exact a7J (a5h rfl rfl) (a1D rfl))) ?_
  exact ⟨⟨_,rfl,(by rw [hA];exact a5u)⟩,⟨⟨_,rfl,(by rw [hA];exact a5N)⟩,trivial⟩⟩
 have hok:¬ (a2Y l).2=false:=(by simpa using hr6)
 refine ru 7 ?_
 refine rvl (a0r (a2Y l).1.name) (rfl) ?_
 refine ru 3 ?_
 refine wdc (fun hr7 hc7=>?_) (fun hr7 hc7=>?_)
 ·skip
  have hA:a1I d l=(d,9):=(by unfold a1I;rw [if_neg h0,if_pos hn,if_neg hok,if_pos (.inl (by simpa using hr7))])
  refine ru 9 ?_
  refine fr2 ok hX rw2 ((g1,g2)) (trivial) ((by rw [hA];exact a7J (a5h rfl rfl) (a1D rfl))) ?_
  exact ⟨⟨_,rfl,(by rw [hA];exact a5u)⟩,⟨⟨_,rfl,(by rw [hA];exact a5N)⟩,trivial⟩⟩
 have hnt:¬ (a2Y l).1.name=a4Z:=(by simpa using hr7)
 refine ru 9 ?_
 refine a0o (α:=Nat) (fun x c=>⟨117,[(1,.v (a1a l)),(2,.v (.pt 2 k0 0 0)),(4,.v (.pt 4 (k0+1) 0 0)),(9,.v (.pt 9 (k0+2) 0 0)),(11,.v (a0g x))],[(2,c2F k0 g1 d.nodes.length g2 d.marks.length),(4,rzO (k0+1)),(9,⟨k0+2,1,9,54,0,fun _=>a6F (a2Y l).1⟩),(8101,b8z g1 d.nodes),(8102,b7I g2 d.marks)],c⟩) (fun x=>x≤d.nodes.length∧∀ i,i < x→decide ((d.nodes.getD i default).name=(a2Y l).1.name)=false) (fun x=>d.nodes.length - x) (0) (by exact ⟨Nat.zero_le _,fun i h=>absurd h (Nat.not_lt_zero _)⟩) (a0c rfl (Nat.le_refl _) tsa (a0j.cons rfl (a2J (.refl _) (.refl _)) (a0j.cons rfl (a2J (.refl _) (.refl _)) (a0j.cons rfl (a7Z (by exact q9 (.refl _) (.refl _) (.refl _) (.refl _) (.refl _) (.refl _) (.refl _) (.refl _) (.refl _))) hsa)))) (fun k c hx NhL2 hL2=>?_)
 (try dsimp only at hx hL2 ⊢)
 obtain ⟨hk,hE⟩:=hx
 refine ru 10 ?_
 refine wdc (fun hr8 hc8=>?_) (fun hr8 hc8=>?_)
 ·refine ru 11 ?_
  first
  | refine a3y 100 (HOp.val (v':=a0r (d.nodes.getD k default).name) (a0H ty_9.h rfl (by first | exact Nat.le_of_ble_eq_true rfl | omega | (dsimp only;omega) | (simp <;> omega)) (by first | exact Nat.le_of_ble_eq_true rfl | omega | (dsimp only;omega) | (simp <;> omega)) (fun h=>(by first | rfl | cases h))) ((by simp only [Nat.zero_add];rfl))) rfl rfl (a0B rfl) rfl rfl (k':=6) rfl ?_
  | refine a3y 100 (HOp.val (v':=a0r (d.nodes.getD k default).name) (a0q ty_9.h rfl (by first | exact Nat.le_of_ble_eq_true rfl | omega | (dsimp only;omega) | (simp <;> omega)) (fun h=>(by first | rfl | cases h))) ((by simp only [Nat.zero_add];rfl))) rfl rfl a0e rfl rfl (k':=6) rfl ?_
  refine ru 5 ?_
  refine wdc (fun hr9 hc9=>?_) (fun hr9 hc9=>?_)
  ·skip
   have hA:a1I d l=(d,9):=(by unfold a1I;rw [if_neg h0,if_pos hn,if_neg hok,if_pos (.inr (b9e (d:=default) (k:=k) om hr9))])
   refine ru 10 ?_
   refine a0f ?_
   refine ru 2 ?_
   refine fr2 ok hX rw2 ((g1,g2)) (trivial) ((by rw [hA];exact a7J (a5h rfl rfl) (a1D rfl))) ?_
   exact ⟨⟨_,rfl,(by rw [hA];exact a5u)⟩,⟨⟨_,rfl,(by rw [hA];exact a5N)⟩,trivial⟩⟩
  refine ru 8 ?_
  exact hL2 (k+1) _ _ (by (try dsimp only);exact ⟨by omega,fun i hi=>by by_cases e:i=k;(subst e;exact hr9);exact hE i om⟩) (by (try dsimp only);omega) (a0c rfl (Nat.le_refl _) tsa hsa)
 have hn3:¬ ((a2Y l).1.name=a4Z∨(d.nodes.any fun o=>decide (o.name=(a2Y l).1.name))=true):=(by rintro (h | h);exact hnt h;rw [b9G (d:=default) (fun j hj=>hE j om)] at h;cases h)
 refine ru 2 ?_
 refine a0d ?_
 refine ru 11 ?_
 refine wdc (fun hr10 hc10=>?_) (fun hr10 hc10=>?_)
 ·skip
  have hA:a1I d l=(d,4):=(by unfold a1I;rw [if_neg h0,if_pos hn,if_neg hok,if_neg hn3,if_pos om])
  refine ru 9 ?_
  refine fr2 ok hX rw2 ((g1,g2)) (trivial) ((by rw [hA];exact a7J (a5h rfl rfl) (a1D rfl))) ?_
  exact ⟨⟨_,rfl,(by rw [hA];exact a5u)⟩,⟨⟨_,rfl,(by rw [hA];exact a5N)⟩,trivial⟩⟩
 have hA:a1I d l=(⟨d.nodes++[(a2Y l).1],d.marks⟩,0):=(by unfold a1I;rw [if_neg h0,if_pos hn,if_neg hok,if_neg hn3,if_neg om])
 refine ru 7 ?_
 refine a0p 113 (a0b (id:=113) (hs:=[_]) ei_30.h omx rfl omx ⟨rfl,rfl,rfl,rfl,trivial⟩) rfl rfl a0e rfl rfl (c':=c+1) rfl ?_
 first
 | refine a0p 114 (a0a ei_30.h (by first | exact Nat.le_of_ble_eq_true rfl | omega | (dsimp only;omega) | (simp <;> omega)) rfl (by first | exact Nat.le_of_ble_eq_true rfl | omega | (dsimp only;omega) | (simp <;> omega)) (by first | exact Nat.le_of_ble_eq_true rfl | omega | (dsimp only;omega) | (simp <;> omega)) (a0s rfl (by first | exact Nat.le_of_ble_eq_true rfl | omega | (dsimp only;omega) | (simp <;> omega))) (by first | exact Nat.le_of_ble_eq_true rfl | omega | (dsimp only;omega) | (simp <;> omega)) rfl) rfl rfl (a0h rfl (a0B rfl)) rfl rfl (c':=c+2) rfl ?_
 | refine a0p 114 (a0a ei_30.h (by first | exact Nat.le_of_ble_eq_true rfl | omega | (dsimp only;omega) | (simp <;> omega)) rfl (by first | exact Nat.le_of_ble_eq_true rfl | omega | (dsimp only;omega) | (simp <;> omega)) (by first | exact Nat.le_of_ble_eq_true rfl | omega | (dsimp only;omega) | (simp <;> omega)) (a0D rfl (by first | exact Nat.le_of_ble_eq_true rfl | omega | (dsimp only;omega) | (simp <;> omega))) (by first | exact Nat.le_of_ble_eq_true rfl | omega | (dsimp only;omega) | (simp <;> omega)) rfl) rfl rfl (a0h rfl (a0B rfl)) rfl rfl (c':=c+2) rfl ?_
 | refine a0p 114 (a0a ei_30.h (by first | exact Nat.le_of_ble_eq_true rfl | omega | (dsimp only;omega) | (simp <;> omega)) rfl (by first | exact Nat.le_of_ble_eq_true rfl | omega | (dsimp only;omega) | (simp <;> omega)) (by first | exact Nat.le_of_ble_eq_true rfl | omega | (dsimp only;omega) | (simp <;> omega)) (a0C rfl) (by first | exact Nat.le_of_ble_eq_true rfl | omega | (dsimp only;omega) | (simp <;> omega)) rfl) rfl rfl (a0h rfl a0e) rfl rfl (c':=c+2) rfl ?_
 | refine a0p 114 (a0a ei_30.h (by first | exact Nat.le_of_ble_eq_true rfl | omega | (dsimp only;omega) | (simp <;> omega)) rfl (by first | exact Nat.le_of_ble_eq_true rfl | omega | (dsimp only;omega) | (simp <;> omega)) (by first | exact Nat.le_of_ble_eq_true rfl | omega | (dsimp only;omega) | (simp <;> omega)) (a0u 9 (fun _ _=>default) rfl) (by first | exact Nat.le_of_ble_eq_true rfl | omega | (dsimp only;omega) | (simp <;> omega)) rfl) rfl rfl (a0h rfl a0e) rfl rfl (c':=c+2) rfl ?_
 refine ru 12 ?_
 refine fr2 ok hX rw2 ((c+1,g2)) (trivial) ((by rw [hA];exact a7J (a5h rfl rfl (by simp)) (a1D rfl))) ?_
 exact ⟨⟨_,rfl,(by rw [hA];exact a5D (by simp) a4e (by exact q9 rfl rfl rfl rfl rfl rfl rfl rfl rfl))⟩,⟨⟨_,rfl,(by rw [hA];exact a5N)⟩,trivial⟩⟩
theorem b6Y (s:Bs) (hs:s.length≤10000):a0t Tryz.prog 8 [a0r s] (c3J (a2c s)):=by
 obtain ⟨⟨L_,at_,e_⟩,hR_⟩:∃ R_,a1A s=R_:=⟨_,rfl⟩
 have hln:a0t Tryz.prog 19 [a0r s] (b6I (L_,at_,e_)):=by rw [←hR_];exact b4n s hs
 refine a0n Tryz.func8 rfl kr _ _ _ rfl 58 rfl rfl (fun w F=>?_)
 refine ru 10 ?_
 refine cll (hln) ?_
 refine ru 16 ?_
 refine wdc (fun hr0 hc0=>?_) (fun hr0 hc0=>?_)
 ·skip
  have hD:a2c s=(Dc.zero,(at_:Int),e_):=(by unfold a2c;rw [hR_,if_pos (by simpa using hr0)])
  refine ru 12 ?_
  refine rt3 ?_
  rw [hD];exact a1q (a8K rfl rfl) (.imm _) (.imm _)
 have he0:e_=0:=(by simpa using hr0);have hD:a2c s=a3m L_ 0 Dc.zero:=(by unfold a2c;rw [hR_,if_neg (by simpa using hr0)]);obtain ⟨hL1,hL2,hL3⟩:=a7C (s:=s) (by rw [hR_];exact he0);rw [hR_] at hL2 hL3;have hL2:L_.length≤65537:=hL2;have hL3:∀ w∈L_,w.length≤s.length:=hL3
 refine ru 16 ?_
 refine (a1l 8 0 8101 9 54 (b4f []) (fun _ j=>match j with | 0=>.os 8101 3 0 0 | _=>.imm (.slice none 0 0)) rfl rfl (by exact fun j hj=>by match j,hj with | 0,_=>exact .inl ⟨rfl,rfl⟩ | 1,_=>exact .inr rfl) (by decide) (by decide) (c':=4) rfl).wp ?_;refine (a1l 8 1 8102 4 57 (b4F []) (fun _=>dcG 3 0 4 0) rfl rfl (by exact fun j hj=>by match j,hj with | 0,_=>exact .inr rfl | 1,_=>exact .inl ⟨rfl,rfl⟩) (by decide) (by decide) (c':=5) rfl).wp ?_
 refine a0o (α:=Nat×Dc×Nat×Nat) (fun x c=>⟨58,[(2,.v (.pt 2 0 0 0)),(5,.v (a1a L_)),(8,.v (.pt 8 1 0 0)),(9,.v (a0g (x.1:Int)))],[(2,rzO 0),(8,c2F 1 x.2.2.1 x.2.1.nodes.length x.2.2.2 x.2.1.marks.length),(8101,b8z x.2.2.1 x.2.1.nodes),(8102,b7I x.2.2.2 x.2.1.marks)],c⟩) (fun x=>x.1≤L_.length∧(x.2.1.nodes.length≤24∧x.2.1.marks.length≤8)∧a3m (L_.drop x.1) x.1 x.2.1=a2c s) (fun x=>L_.length - x.1) ((0,Dc.zero,3,4)) (by exact ⟨Nat.zero_le _,⟨Nat.zero_le _,Nat.zero_le _⟩,hD.symm⟩) (a0c rfl (Nat.le_refl _) tsa (a0j.cons rfl (a2J (.refl _) (.refl _)) hsa)) (fun x c hx NhL1 hL1=>?_)
 revert hx hL1;obtain ⟨i,d,g1,g2⟩:=x;intro hx hL1;dsimp only at hx hL1 ⊢
 obtain ⟨ha1,ha2,ha3⟩:=hx
 refine ru 9 ?_
 refine wdc (fun hr1 hc1=>?_) (fun hr1 hc1=>?_)
 ·skip
  have hil:i < L_.length:=om;obtain ⟨v_,hv_⟩:∃ v_,L_.getD i []=v_:=⟨_,rfl⟩;have hd_:L_.drop i=v_::L_.drop (i+1):=(by rw [List.drop_eq_getElem_cons hil,←hv_,List.getD_eq_getElem?_getD,List.getElem?_eq_getElem hil];rfl);have hvl:v_.length≤10000:=(by have:=hL3 v_ (by rw [←hv_];exact a1X hil);omega);rw [hd_,a8H] at ha3;obtain ⟨o_,ho_⟩:∃ o_,a2a v_=o_:=⟨_,rfl⟩;have hsp:a0t Tryz.prog 20 [a0r v_] (b3E o_):=(by rw [←ho_];exact b4D v_ hvl);rw [ho_] at ha3
  refine ru 10 ?_
  refine rvl (a0r v_) ((by rw [←hv_];first | done | rfl)) ?_
  refine cll (hsp) ?_
  refine ru 9 ?_
  rcases o_ with _ | wl
  ·refine ru 10 ?_
   refine wdc (fun hr2 hc2=>?_) (fun hr2 hc2=>?_)
   ·skip
    exfalso;simp at hr2
   refine ru 8 ?_
   refine wdc (fun hr3 hc3=>?_) (fun hr3 hc3=>?_)
   ·skip
    have ha4:(Dc.zero,((i+1:Nat):Int),(2:Int))=a2c s:=ha3
    refine ru 14 ?_
    refine a0f ?_
    refine ru 2 ?_
    refine rt3 ?_
    rw [←ha4];exact a1q (a8K rfl rfl) (Fz.eq (congrArg a0g (show ((i:Nat):Int)+1=((i+1:Nat):Int) from by omega))) (.imm _)
   exfalso;simp at hr3
  ·refine ru 10 ?_
   refine wdc (fun hr2 hc2=>?_) (fun hr2 hc2=>?_)
   ·skip
    have hne:wl≠[]:=(by rintro rfl;simp at hr2);have ha5:(if wl=[] then a3m (L_.drop (i+1)) (i+1) d else if (a1I d wl).2=0 then a3m (L_.drop (i+1)) (i+1) (a1I d wl).1 else (Dc.zero,((i+1:Nat):Int),(a1I d wl).2))=a2c s:=ha3;rw [if_neg hne] at ha5;obtain ⟨hW1,hW2⟩:=a7v ho_;have hWj:=a7h ho_
    refine ru 3 ?_
    refine a0m 48 (xs:=[_,_]) (pre:=[(8101,_),(8102,_)]) (c1R _ g1 g2 d wl ha2 om (fun w hw=>by have:=hW2 w hw;omega) (by rw [hWj];omega)) ⟨rfl,⟨rfl,trivial⟩⟩ (a0h rfl (a0h rfl a0e)) rfl rfl (fun x1 c1 hx1=>?_)
    obtain ⟨q1,q2⟩:=x1
    (try dsimp only)
    refine ru 13 ?_
    refine wdc (fun hr3 hc3=>?_) (fun hr3 hc3=>?_)
    ·skip
     have ha4:(Dc.zero,((i+1:Nat):Int),(a1I d wl).2)=a2c s:=(by rw [if_neg (by simpa using hr3)] at ha5;exact ha5)
     refine ru 14 ?_
     refine a0f ?_
     refine ru 2 ?_
     refine rt3 ?_
     rw [←ha4];exact a1q (a8K rfl rfl) (Fz.eq (congrArg a0g (show ((i:Nat):Int)+1=((i+1:Nat):Int) from by omega))) (.imm _)
    have ha4:a3m (L_.drop (i+1)) (i+1) (a1I d wl).1=a2c s:=(by rw [if_pos (by simpa using hr3)] at ha5;exact ha5)
    refine ru 8 ?_
    exact hL1 ((i+1,(a1I d wl).1,q1,q2)) _ _ (by (try dsimp only);exact ⟨by omega,a8W ha2,ha4⟩) (by (try dsimp only);omega) (a0c rfl (Nat.le_refl _) tsa (hsr rfl (a0j.cons rfl (a2J (.refl _) (.refl _)) hsa)))
   have hwe:wl=[]:=(by have h9:=hr2;simp at h9;first | exact h9 | exact List.eq_nil_of_length_eq_zero om);have ha4:a3m (L_.drop (i+1)) (i+1) d=a2c s:=(by subst hwe;exact ha3)
   refine ru 8 ?_
   refine wdc (fun hr3 hc3=>?_) (fun hr3 hc3=>?_)
   ·skip
    exfalso;simp at hr3
   refine ru 8 ?_
   exact hL1 ((i+1,d,g1,g2)) _ _ (by (try dsimp only);exact ⟨by omega,ha2,ha4⟩) (by (try dsimp only);omega) (a0c rfl (Nat.le_refl _) tsa hsa)
 rw [List.drop_of_length_le (show L_.length≤i by omega)] at ha3
 refine ru 2 ?_
 refine a0d ?_
 refine ru 11 ?_
 refine a4A rfl (a0N rfl rfl ty_33.h rqc rfl rfl) (a0k rfl) (a0k rfl) [(8101,_),(8102,_)] rfl (a0h rfl (a0h rfl a0e)) ?_
 rw [←ha3];exact a1q (.agg _ _ _ (fun j hj=>by match j,hj with | 0,_=>exact a1z (l:=d.nodes) (enc:=a6F) (d:=default) (List.mem_cons_self ..) rfl rfl (Nat.le_refl _) (fun i j hi hj=>a4e _ j hj) | 1,_=>exact a1z (l:=d.marks) (enc:=a6n) (d:=default) (List.mem_cons_of_mem _ (List.mem_cons_self ..)) rfl rfl (Nat.le_refl _) (fun i j hi hj=>a4q _ j hj))) (.imm _) (.imm _)
end Go.Proofs.YtjdmfohncgkdoaaGreatDoor
