/-
  What a tree lays reads what the tree says. Plain lemmas, no program in sight.
-/
import Derived.Test.YtdbbbafiegpbpaaGreatDoorNfaH
import Derived.Test.YtdbbbafiegpbpaaGreatDoorLexB
import Derived.Test.YtdbbbafiegpbpaaGreatDoorHc
import Derived.Test.YtdbbbafiegpbpaaGreatDoorChecked
import Derived.ProofKit
import Derived.OpenShut
import Derived.ChangeOld
import Derived.Deep.Slices
import Derived.Test.YtdbbbafiegpbpaaGreatDoorNb12
import Derived.Test.YtdbbbafiegpbpaaGreatDoorRows
import Derived.LaidLaws
import Derived.LaidMore
import Derived.LaidSub
import Derived.HandedShaped
import Derived.Shelf.Vars
import Derived.Stop.Joined
namespace Go.Proofs.YtdbbbafiegpbpaaGreatDoor
set_option linter.unusedSimpArgs false
set_option linter.unusedVariables false
set_option linter.unusedSectionVars false
set_option maxRecDepth 10000
theorem b6Y {L K J:List Int→Prop} {w:List Int}:b4n (b4n L K) J w↔b4n L (b4n K J) w:=by
 constructor
 ·rintro ⟨_,v,rfl,⟨a,b,rfl,h1,h2⟩,h3⟩
  exact ⟨a,b++v,List.append_assoc ..,h1,b,v,rfl,h2,h3⟩
 ·rintro ⟨a,_,rfl,h1,b,v,rfl,h2,h3⟩
  exact ⟨a++b,v,(List.append_assoc ..).symm,⟨a,b,rfl,h1,h2⟩,h3⟩
def a5d (σ:Nat→Int→Prop) (N:Nat) (on:List Bag):Prop:=∀ i,i < on.length→∀ a,σ (N+i) a↔a∈(on.getD i Bag.zero).list
section
variable {σ:Nat→Int→Prop} {N:Nat}
theorem a5d.left {a b:List Bag} (h:a5d σ N (a++b)):a5d σ N a:=fun i hi x=>by
 have:=h i (by rw [List.length_append];omega) x
 rwa [List.getD_eq_getElem?_getD,List.getElem?_append_left hi,←List.getD_eq_getElem?_getD] at this
theorem a5d.right {a b:List Bag} (h:a5d σ N (a++b)):a5d σ (N+a.length) b:=fun i hi x=>by
 have:=h (a.length+i) (by rw [List.length_append];omega) x
 rwa [List.getD_eq_getElem?_getD,List.getElem?_append_right (by omega),←List.getD_eq_getElem?_getD,Nat.add_sub_cancel_left,←Nat.add_assoc] at this
theorem a5d.pre {a l:List Bag} (h:a5d σ N l) (hp:a <+: l):a5d σ N a:=by
 obtain ⟨b,rfl⟩:=hp
 exact h.left
end
theorem b9H (g:Nat→Ly) (k:Nat):∀ d,onP g k <+: onP g (k+d)
 | 0=>List.prefix_refl _
 | d+1=>(b9H g k d).trans (List.prefix_append _ _)
theorem b8z (m:List UInt8→Bag):∀ (ts:List T) (N:Nat) (a:Ly),a.on <+: (a5J m ts N a).on
 | [],N,a=>by simp only [a5J];exact List.prefix_refl _
 | t::ts,N,a=>by simp only [a5J];exact (List.prefix_append _ _).trans (b8z m ts (N+t.w) ⟨a.on++(lay m t N).on,a.lk++(lay m t N).lk++[(a.pc.ends,(lay m t N).pc.first)],a.pc.join (lay m t N).pc⟩)
theorem b8U (m:List UInt8→Bag):∀ (ts:List T) (N:Nat) (a:Ly),a.on <+: (a5I m ts N a).on
 | [],N,a=>by simp only [a5I];exact List.prefix_refl _
 | t::ts,N,a=>by simp only [a5I];exact (List.prefix_append _ _).trans (b8U m ts (N+t.w) ⟨a.on++(lay m t N).on,a.lk++(lay m t N).lk,⟨bun a.pc.first (lay m t N).pc.first,bun a.pc.ends (lay m t N).pc.ends,a.pc.empty||(lay m t N).pc.empty⟩⟩)
mutual
theorem c2b {m:List UInt8→Bag} (hm:∀ s,(m s).ok) (σ:Nat→Int→Prop):∀ (t:T) (N:Nat),t.ok=true→N+t.w≤256→a5d σ N (lay m t N).on →
    (mcO (lay m t N).lk (lay m t N).pc).In N (N+t.w)∧∀ u,(mcO (lay m t N).lk (lay m t N).pc).L σ u↔c0V m t u
  | .name s, N, _, hN, hs => by
    simp only [T.w] at hN ⊢
    simp only [lay] at hs ⊢
    have hs0:∀ a,σ N a↔a∈(m s).list:=fun a=>hs 0 (by simp) a
    have h1:∀ p,a6J (a3f N) p↔p=N:=fun p=>b4t (by omega)
    refine ⟨⟨fun h=>(a6a.1 h).elim,fun h=>by have:=(h1 _).1 h;omega,fun h=>by have:=(h1 _).1 h;omega⟩,fun u=>?_⟩
    simp only [c0V]
    constructor
    · rintro (⟨_,h⟩ | ⟨p,h,h2⟩)
      · cases h
      · obtain rfl:=(h1 _).1 h
        cases u with
        | nil=>exact h2.elim
        | cons a u =>
          obtain ⟨h3,⟨rfl,_⟩ | ⟨q,h4,_⟩⟩:=h2
          · exact ⟨a,rfl,(hs0 a).1 h3⟩
          · exact (a6a.1 h4).elim
    · rintro ⟨a,rfl,h⟩
      exact .inr ⟨N,(h1 N).2 rfl,(hs0 a).2 h,.inl ⟨rfl,(h1 N).2 rfl⟩⟩
  | .times lo hi t, N, hok, hN, hs => by
    simp only [T.w] at hN ⊢
    simp only [T.ok,Bool.and_eq_true,Bool.or_eq_true,decide_eq_true_eq] at hok
    simp only [lay] at hs ⊢
    simp only [c0V]
    obtain ⟨⟨⟨hlo,hlo2⟩,hh⟩,hokt⟩:=hok
    have hkw:∀ k,k < a0j lo hi→N+k * t.w+t.w≤256:=fun k hk=>by
      have:(k+1) * t.w≤a0j lo hi * t.w:=Nat.mul_le_mul_right _ hk
      rw [Nat.succ_mul] at this
      rw [Nat.mul_comm] at hN
      omega
    rw [(b5e hlo (fun k=>lay m t (N+k * t.w)) (fun _=>Bag.zero)).1] at hs
    have hg:∀ k,k < a0j lo hi→((fun k=>lay m t (N+k * t.w)) k).Ok (N+k * t.w) t.w:=fun k hk=>a3T hm t _ (hkw k hk)
    rw [Nat.mul_comm t.w]
    refine c7H σ hlo ?_ (fun i hil=>c2b hm σ t (N+i * t.w) hokt (hkw i hil) ?_)
    · rcases hh with hh | ⟨h1,h2⟩
      · exact .inl hh
      · split at h1
        · exact .inr ⟨by omega,by omega⟩
        · exact .inr ⟨by omega,by omega⟩
    · have h1:=hs.pre (a:=onP (fun k=>lay m t (N+k * t.w)) (i+1)) (by
        have:=b9H (fun k=>lay m t (N+k * t.w)) (i+1) (a0j lo hi - (i+1))
        rwa [show i+1+(a0j lo hi - (i+1))=a0j lo hi by omega] at this)
      have h2:=a5d.right (a:=onP (fun k=>lay m t (N+k * t.w)) i) (b:=lay m t (N+i * t.w) |>.on) h1
      rwa [b3C hg i (by omega)] at h2
  | .many k ts, N, hok, hN, hs => by
    simp only [T.w] at hN ⊢
    simp only [T.ok,Bool.and_eq_true] at hok
    simp only [lay] at hs ⊢
    simp only [c0V]
    by_cases h3:k=3
    · simp only [if_pos h3] at hs ⊢
      obtain ⟨h1,h2⟩:=c3u hm σ ts N N ⟨[],[],default⟩ hok.2 hN (by simp) (by rw [b9T];exact c4C) hs
      refine ⟨h1,fun u=>?_⟩
      rw [h2,b9T,c7X];simp
    · simp only [if_neg h3] at hs ⊢
      obtain ⟨h1,h2⟩:=c3g hm σ ts N N ⟨[],[],Pc.nil⟩ hok.2 hN (by simp) (by rw [b4q];exact a8G) hs
      refine ⟨h1,fun u=>?_⟩
      rw [h2]
      constructor
      · rintro ⟨a,b,rfl,h4,h5⟩
        rw [b4q,a5Q] at h4
        subst h4
        exact h5
      · exact fun h=>⟨[],u,rfl,by rw [b4q,a5Q],h⟩
theorem c3u {m:List UInt8→Bag} (hm:∀ s,(m s).ok) (σ:Nat→Int→Prop):∀ (ts:List T) (N N0:Nat) (a:Ly),T.okL ts=true→N+T.wL ts≤256→N0+a.on.length=N→(mcO a.lk a.pc).In N0 N→a5d σ N0 (a5I m ts N a).on →
    (mcO (a5I m ts N a).lk (a5I m ts N a).pc).In N0 (N+T.wL ts)∧∀ u,(mcO (a5I m ts N a).lk (a5I m ts N a).pc).L σ u↔(mcO a.lk a.pc).L σ u∨c8H m ts u
  | [], N, N0, a, _, hN, hl, ha, hs => by
    simp only [a5I,T.wL,Nat.add_zero,c8H,or_false]
    exact ⟨ha,fun u=>trivial⟩
  | t :: ts, N, N0, a, hok, hN, hl, ha, hs => by
    simp only [T.wL] at hN ⊢
    simp only [T.okL,Bool.and_eq_true] at hok
    simp only [a5I] at hs ⊢
    have hlen:=(a3T hm t N (by omega)).len
    have hst:a5d σ N0 (a.on++(lay m t N).on):=hs.pre (b8U m ts (N+t.w) ⟨a.on++(lay m t N).on,a.lk++(lay m t N).lk,⟨bun a.pc.first (lay m t N).pc.first,bun a.pc.ends (lay m t N).pc.ends,a.pc.empty||(lay m t N).pc.empty⟩⟩)
    have hst2:a5d σ N (lay m t N).on:=by have:=hst.right;rwa [hl] at this
    obtain ⟨h1,h2⟩:=c2b hm σ t N hok.1 (by omega) hst2
    obtain ⟨h3,h4⟩:=c3u hm σ ts (N+t.w) N0 ⟨a.on++(lay m t N).on,a.lk++(lay m t N).lk,⟨bun a.pc.first (lay m t N).pc.first,bun a.pc.ends (lay m t N).pc.ends,a.pc.empty||(lay m t N).pc.empty⟩⟩ hok.2 (by omega)
      (by show N0+(a.on++(lay m t N).on).length=_;rw [List.length_append,hlen];omega) (by rw [c0g];exact c7k (ha.mono (Nat.le_refl _) (by omega)) (h1.mono (by omega) (Nat.le_refl _))) hs
    refine ⟨by rw [←Nat.add_assoc];exact h3,fun u=>?_⟩
    rw [h4];dsimp only;rw [c0g,c9s σ ha h1,h2,or_assoc]
    simp only [c8H]
theorem c3g {m:List UInt8→Bag} (hm:∀ s,(m s).ok) (σ:Nat→Int→Prop):∀ (ts:List T) (N N0:Nat) (a:Ly),T.okL ts=true→N+T.wL ts≤256→N0+a.on.length=N→(mcO a.lk a.pc).In N0 N→a5d σ N0 (a5J m ts N a).on →
    (mcO (a5J m ts N a).lk (a5J m ts N a).pc).In N0 (N+T.wL ts)∧∀ u,(mcO (a5J m ts N a).lk (a5J m ts N a).pc).L σ u↔b4n ((mcO a.lk a.pc).L σ) (c6V m ts) u
  | [], N, N0, a, _, hN, hl, ha, hs => by
    simp only [a5J,T.wL,Nat.add_zero]
    exact ⟨ha,fun u=>⟨fun h=>⟨u,[],by simp,h,by simp only [c6V]⟩,by
      rintro ⟨x,y,rfl,h1,h2⟩
      simp only [c6V] at h2
      subst h2;rw [List.append_nil];exact h1⟩⟩
  | t :: ts, N, N0, a, hok, hN, hl, ha, hs => by
    simp only [T.wL] at hN ⊢
    simp only [T.okL,Bool.and_eq_true] at hok
    simp only [a5J] at hs ⊢
    have hlen:=(a3T hm t N (by omega)).len
    have hst:a5d σ N0 (a.on++(lay m t N).on):=hs.pre (b8z m ts (N+t.w) ⟨a.on++(lay m t N).on,a.lk++(lay m t N).lk++[(a.pc.ends,(lay m t N).pc.first)],a.pc.join (lay m t N).pc⟩)
    have hst2:a5d σ N (lay m t N).on:=by have:=hst.right;rwa [hl] at this
    obtain ⟨h1,h2⟩:=c2b hm σ t N hok.1 (by omega) hst2
    obtain ⟨h3,h4⟩:=c3g hm σ ts (N+t.w) N0 ⟨a.on++(lay m t N).on,a.lk++(lay m t N).lk++[(a.pc.ends,(lay m t N).pc.first)],a.pc.join (lay m t N).pc⟩ hok.2 (by omega)
      (by show N0+(a.on++(lay m t N).on).length=_;rw [List.length_append,hlen];omega) (by rw [b9l];exact b6m (ha.mono (Nat.le_refl _) (by omega)) (h1.mono (by omega) (Nat.le_refl _))) hs
    refine ⟨by rw [←Nat.add_assoc];exact h3,fun u=>?_⟩
    rw [h4];dsimp only
    rw [b9l,a3q (fun u=>(b2X σ ha h1 u).trans (a3q (fun _=>Iff.rfl) h2 u)) (fun _=>Iff.rfl),b6Y]
    exact a3q (fun _=>Iff.rfl) (fun u=>by simp only [c6V];exact Iff.rfl) u
end
theorem c0Y {x:Bag} {p:Nat} (h:x.has p=true):∃ p',a6J x p':=by
 by_cases hp:p < 256
 ·exact ⟨p,hp,h⟩
 ·obtain ⟨q,hq⟩:∃ q,p=64 * (q+3)+p % 64:=⟨p / 64 - 3,by omega⟩
  rw [hq,x.has_at _ _ (by omega)] at h
  refine ⟨64 * 3+p % 64,by omega,?_⟩
  rw [x.has_at _ _ (by omega),←h]
  cases q <;> rfl
theorem c1n {M:Nat} {x:Pc} {lk:List Lk} (h:(mcO lk x).In 0 M) (p:Nat):InB 0 M (links (fun _=>Bag.zero) lk p):=by
  have key:∀ (l:List Lk) (β:Nat→Bag),(∀ y∈l,y∈lk)→InB 0 M (β p)→InB 0 M (links β l p):=by
    intro l
    induction l with
    | nil=>exact fun β _ h=>h
    | cons y l ih =>
      intro β hy hb
      refine ih (a1X β y) (fun z hz=>hy z (List.mem_cons_of_mem _ hz)) ?_
      unfold a1X
      split
      · rename_i hh
        obtain ⟨p',hp'⟩:=c0Y hh
        exact b2c hb (fun q hq h3=>(h.F (p:=p') (q:=q) ⟨y,hy y (List.mem_cons_self ..),hp',hq,h3⟩).2)
      · exact hb
  exact key lk _ (fun _ h=>h) (a3m _ _)
end Go.Proofs.YtdbbbafiegpbpaaGreatDoor
namespace Go.Proofs.YtdbbbafiegpbpaaGreatDoor
set_option linter.unusedSimpArgs false
set_option linter.unusedVariables false
set_option linter.unusedSectionVars false
set_option maxRecDepth 100000
set_option maxHeartbeats 1000000
open Go.RowKit
section
variable {on:List Bag} {β:Nat→Bag} {ends:Bag} {a:Int}
end
theorem c8N {m:List UInt8→Bag} (hm:∀ s,(m s).ok) {t:T} (hok:t.ok=true) (hw:t.w≤256) :
  (mcO (lay m t 0).lk (lay m t 0).pc).In 0 (0+t.w)∧∀ u,(mcO (lay m t 0).lk (lay m t 0).pc).L (fun p a=>a∈(onF (lay m t 0).on p).list) u↔c0V m t u :=
 c2b hm _ t 0 hok (by omega) (fun i hi a=>by show a∈(onF (lay m t 0).on (0+i)).list↔_;rw [Nat.zero_add])
section
variable {s:List UInt8} {l:List Mn} {wd:Nat} {on:List Bag} {β:Nat→Bag} {p:Pc} {e:List Pt}
theorem NetOk.inF (V:NetOk s l wd on β p e):InB 0 wd p.first:=by
 rcases V.is with ⟨_,_,_,_,h⟩ | ⟨t,hok,_,hw,_,_,h⟩
 ·rw [h];exact a3m _ _
 ·rw [h,hw];exact (a3T (a3R l) t 0 (by have:=V.w60;omega)).inB.1
theorem NetOk.inβ (V:NetOk s l wd on β p e) (q:Nat):InB 0 wd (β q):=by
 rcases V.is with ⟨_,_,_,h,_⟩ | ⟨t,hok,_,hw,_,h,_⟩
 ·rw [h];exact a3m _ _
 ·rw [h,hw];exact c1n (c8N (a3R l) hok (by have:=V.w60;omega)).1 q
end
section
variable {on:List Bag} {β:Nat→Bag} {x:Bag} {a:Int} {k:Nat}
end
def b1C (l m:List Int):Nat→List Int
 | 0=>[]
 | k+1=>if (k:Int)∈l∧(k:Int)∈m then b1C l m k++[(k:Int)] else b1C l m k
theorem b5F (l m:List Int):∀ k,(b1C l m k).length≤k
 | 0=>Nat.le_refl _
 | k+1=>by have:=b5F l m k;unfold b1C;split <;> simp <;> omega
theorem b5q {l m:List Int}:∀ {k:Nat},b1C l m k=[]↔∀ j,j < k→¬ ((j:Int)∈l∧(j:Int)∈m)
  | 0=>⟨fun _ j hj=>by omega,fun _=>rfl⟩
  | k + 1 => by
    unfold b1C
    split
    · rename_i h;exact ⟨fun e=>by simp at e,fun e=>absurd h (e k (Nat.lt_succ_self _))⟩
    · rename_i h
      rw [b5q]
      exact ⟨fun e j hj=>by rcases Nat.lt_succ_iff_lt_or_eq.1 hj with h1 | rfl;exact e j h1;exact h,fun e j hj=>e j (by omega)⟩
theorem c8s (l m:List Int) (hl:l.length≤1000000) (hm:m.length≤1000000):HPure Tryz.prog 47 [a0n l,a0n m,intV 1] (a0n (b1C l m 256)):=by
 refine a0k Tryz.func47 rfl kr _ _ _ rfl 55 rfl rfl (fun w F=>?_)
 refine ru 17 ?_
 refine a5i 7 9301 1 3 ((a4W [])) rfl (by decide) rfl (c':=1) rfl ?_
 refine a0l (α:=Nat×Nat) (fun x c=>⟨55,[(0,.v (a0n l)),(1,.v (a0n m)),(2,.v (intV 1)),(7,.v (.os 9301 x.2 0 (b1C l m x.1).length)),(8,.v (intV x.1))],[(9301,⟨x.2,(b1C l m x.1).length,1,3,0,a4W (b1C l m x.1)⟩)],c⟩) (fun x=>x.1≤256) (fun x=>256 - x.1) ((0,0)) om (a0c rfl (Nat.le_refl _) tsa hsa) (fun x c hx NhL1 hL1=>?_)
 revert hx hL1;obtain ⟨k,g⟩:=x;intro hx hL1;dsimp only at hx hL1 ⊢
 have hlen:=b5F l m k
 refine ru 7 ?_
 refine wdc (fun hr0 hc0=>?_) (fun hr0 hc0=>?_)
 ·refine ru 8 ?_
  refine cll (c0B l hl k) ?_
  refine ru 7 ?_
  refine cll (c0B m hm k) ?_
  refine ru 36 ?_
  refine wdc (fun hr1 hc1=>?_) (fun hr1 hc1=>?_)
  ·skip
   have hab:(k:Int)∈l∧(k:Int)∈m:=(by simpa using hr1);have hA:b1C l m (k+1)=b1C l m k++[(k:Int)]:=if_pos hab
   refine ru 3 ?_
   refine a0u 52 (a0b (id:=52) (hs:=[_]) ei_49.h omx rfl omx ⟨rfl,rfl,rfl,rfl,trivial⟩) rfl rfl a0g rfl rfl (c':=c+1) rfl ?_
   first
   | refine a0u 53 (a0a ei_49.h (by first | exact Nat.le_of_ble_eq_true rfl | omega | (dsimp only;omega) | (simp <;> omega)) rfl (by first | exact Nat.le_of_ble_eq_true rfl | omega | (dsimp only;omega) | (simp <;> omega)) (by first | exact Nat.le_of_ble_eq_true rfl | omega | (dsimp only;omega) | (simp <;> omega)) (a0x rfl (by first | exact Nat.le_of_ble_eq_true rfl | omega | (dsimp only;omega) | (simp <;> omega))) (by first | exact Nat.le_of_ble_eq_true rfl | omega | (dsimp only;omega) | (simp <;> omega)) rfl) rfl rfl (a0i rfl (a0P rfl)) rfl rfl (c':=c+2) rfl ?_
   | refine a0u 53 (a0a ei_49.h (by first | exact Nat.le_of_ble_eq_true rfl | omega | (dsimp only;omega) | (simp <;> omega)) rfl (by first | exact Nat.le_of_ble_eq_true rfl | omega | (dsimp only;omega) | (simp <;> omega)) (by first | exact Nat.le_of_ble_eq_true rfl | omega | (dsimp only;omega) | (simp <;> omega)) (a0U rfl (by first | exact Nat.le_of_ble_eq_true rfl | omega | (dsimp only;omega) | (simp <;> omega))) (by first | exact Nat.le_of_ble_eq_true rfl | omega | (dsimp only;omega) | (simp <;> omega)) rfl) rfl rfl (a0i rfl (a0P rfl)) rfl rfl (c':=c+2) rfl ?_
   | refine a0u 53 (a0a ei_49.h (by first | exact Nat.le_of_ble_eq_true rfl | omega | (dsimp only;omega) | (simp <;> omega)) rfl (by first | exact Nat.le_of_ble_eq_true rfl | omega | (dsimp only;omega) | (simp <;> omega)) (by first | exact Nat.le_of_ble_eq_true rfl | omega | (dsimp only;omega) | (simp <;> omega)) (a0O rfl) (by first | exact Nat.le_of_ble_eq_true rfl | omega | (dsimp only;omega) | (simp <;> omega)) rfl) rfl rfl (a0i rfl a0g) rfl rfl (c':=c+2) rfl ?_
   | refine a0u 53 (a0a ei_49.h (by first | exact Nat.le_of_ble_eq_true rfl | omega | (dsimp only;omega) | (simp <;> omega)) rfl (by first | exact Nat.le_of_ble_eq_true rfl | omega | (dsimp only;omega) | (simp <;> omega)) (by first | exact Nat.le_of_ble_eq_true rfl | omega | (dsimp only;omega) | (simp <;> omega)) (a0A 1 (fun _ _=>default) rfl) (by first | exact Nat.le_of_ble_eq_true rfl | omega | (dsimp only;omega) | (simp <;> omega)) rfl) rfl rfl (a0i rfl a0g) rfl rfl (c':=c+2) rfl ?_
   refine ru 9 ?_
   exact hL1 ((k+1,c+1)) _ _ (by (try dsimp only);omega) (by (try dsimp only);omega) (a0c rfl (Nat.le_refl _) (tsr rfl (tsr rfl (tsr rfl (a0t.cons rfl (by dsimp only;rw [hA];exact a3l (by simp)) (a0t.cons rfl (a0F om) a0t.nil))))) (a0e.cons rfl (by dsimp only;rw [hA];exact a0G (enc:=fun x _=>intV x) (d:=0) rfl (fun i j hi hj=>.refl _) (fun j hj=>.refl _)) a0e.nil))
  have hA:b1C l m (k+1)=b1C l m k:=if_neg (by simpa using hr1)
  refine ru 8 ?_
  exact hL1 ((k+1,g)) _ _ (by (try dsimp only);omega) (by (try dsimp only);omega) (a0c rfl (Nat.le_refl _) (tsr rfl (tsr rfl (tsr rfl (a0t.cons rfl (by dsimp only;rw [hA];exact .refl _) (a0t.cons rfl (a0F om) a0t.nil))))) (a0e.cons rfl (by dsimp only;rw [hA];exact .refl _) a0e.nil))
 obtain rfl:k=256:=om
 refine ru 2 ?_
 refine a0d ?_
 refine ru 9 ?_
 refine a5l rfl (a0h rfl) [(9301,_)] rfl (a0i rfl a0g) ?_
 exact a2x (l:=b1C l m 256) (enc:=fun x _=>intV x) (d:=0) (List.mem_cons_self ..) rfl rfl (Nat.le_refl _) (fun i j hi hj=>.imm _)
theorem c7A (s E:Bag) (hs:s.ok) (hE:E.ok):decide (((b1C s.list E.list 256).length:Int) > 0)=decide (s.mix a6Z E 4≠Bag.zero):=by
 have key:b1C s.list E.list 256=[]↔s.mix a6Z E 4=Bag.zero:=by
  rw [b5q]
  constructor
  ·intro h
   refine Bag.ext_has _ _ (c6p s E hs hE) Bag.zero_ok (fun k hk=>?_)
   rw [c0C,Bag.zero_has]
   have:=h k hk
   rw [s.mem_list k hk,E.mem_list k hk] at this
   cases h1:s.has k <;> cases h2:E.has k <;> simp_all
  ·intro h j hj
   rw [s.mem_list j hj,E.mem_list j hj]
   rintro ⟨h1,h2⟩
   have:=c0C s E j
   rw [h,Bag.zero_has,h1,h2] at this;cases this
 by_cases h:b1C s.list E.list 256=[]
 ·rw [decide_eq_false (by rw [h];simp)];exact (decide_eq_false (show ¬ s.mix a6Z E 4≠Bag.zero from fun e=>e (key.1 h))).symm
 ·rw [decide_eq_true (by have:=List.length_pos_iff.2 h;omega)];exact (decide_eq_true (show s.mix a6Z E 4≠Bag.zero from fun e=>h (key.2 e))).symm
theorem b3k {b:Bag}:∀ {S:List Bag} {i k:Nat},(∀ j,j < k→S.getD j Bag.zero≠b)→k < S.length→S.getD k Bag.zero=b→ixA b S i=some (i+k)
  | [],i,k,_,h,_=>by simp at h
  | x :: r, i, 0, _, _, h2 => by
    show (if x=b then some i else _)=_
    rw [if_pos (show x=b from h2)];rfl
  | x :: r, i, k + 1, h, h1, h2 => by
    show (if x=b then some i else ixA b r (i+1))=_
    rw [if_neg (show ¬ x=b from h 0 (by omega)),b3k (fun j hj=>h (j+1) (by omega)) (by simpa using h1) h2]
    congr 1;omega
def rfV (S:List Bag) (s:Bag):Int:=match idA S s with | some n=>(n:Int) | none=>-1
theorem c7S {S:List Bag} {s:Bag} {i:Nat} (h1:1≤i) (hi:i < S.length) (hno:∀ j,1≤j→j < i→S.getD j Bag.zero≠s) (h:S.getD i Bag.zero=s):rfV S s=(i:Int):=by
 have e:∀ j,(S.drop 1).getD j Bag.zero=S.getD (1+j) Bag.zero:=fun j=>by rw [List.getD_eq_getElem?_getD,List.getD_eq_getElem?_getD,List.getElem?_drop]
 have:=b3k (b:=s) (S:=S.drop 1) (i:=1) (k:=i - 1) (fun j hj=>by rw [e];exact hno _ (by omega) (by omega)) (by rw [List.length_drop];omega) (by rw [e,show 1+(i - 1)=i by omega];exact h)
 unfold rfV idA;rw [this];show ((1+(i - 1):Nat):Int)=_;congr 1;omega
theorem c7u {S:List Bag} {s:Bag} (hno:∀ j,1≤j→j < S.length→S.getD j Bag.zero≠s):rfV S s=-1:=by
 have:idA S s=none:=by
  unfold idA
  rw [b5Q]
  intro hm
  obtain ⟨j,hj,he⟩:=List.getElem_of_mem hm
  rw [List.length_drop] at hj
  refine hno (1+j) (by omega) (by omega) ?_
  rw [List.getD_eq_getElem?_getD,List.getElem?_eq_getElem (by omega)]
  rw [List.getElem_drop] at he
  exact he
 unfold rfV;rw [this]
@[reducible] def dtF (g2 g3 g4 n m:Nat):Nat→HV:=fun j=>match j with
 | 0=>.os 9102 g2 0 n
 | 1=>.os 9103 g3 0 m
 | _=>.os 9104 g4 0 n
@[reducible] def dtO (g g2 g3 g4 n m:Nat):HObj:=⟨g,1,3,28,0,fun _=>dtF g2 g3 g4 n m⟩
@[reducible] def sdF (S:List Bag):Nat→Nat→HV:=fun i _=>a0n (S.getD i Bag.zero).list
@[reducible] def sdO (g:Nat) (S:List Bag):HObj:=⟨g,S.length,1,49,0,sdF S⟩
@[reducible] def nxO (g:Nat) (R:List (List Int)):HObj:=⟨g,R.length,32,50,0,b8j R⟩
@[reducible] def acO (g:Nat) (A:List Bool):HObj:=⟨g,A.length,1,4,0,fun i _=>boolV (A.getD i false)⟩
@[reducible] def dtL (g g2 g3 g4:Nat) (S:List Bag) (R:List (List Int)) (A:List Bool):List (Nat×HObj):=[(9101,dtO g g2 g3 g4 S.length R.length),(9102,sdO g2 S),(9103,nxO g3 R),(9104,acO g4 A)]
theorem b9q {kp sh:List (Nat×HObj)} {g g2 g3 g4 n m:Nat} {o2 o3 o4:HObj} (k2:hget kp 9102=some o2) (e2:o2.g=g2) (k3:hget kp 9103=some o3) (e3:o3.g=g3) (k4:hget kp 9104=some o4) (e4:o4.g=g4):OKz kp sh (dtO g g2 g3 g4 n m) (dtO g g2 g3 g4 n m):=d0o (.os _ _ _ _ _ k2 e2) (.os _ _ _ _ _ k3 e3) (.os _ _ _ _ _ k4 e4)
theorem b8o {kp sh:List (Nat×HObj)} {g:Nat} {S:List Bag}:OKz kp sh (sdO g S) (sdO g S):=a3z rfl fun _ _ _ _=>(show Fz sh (a0n _) (a0n _) from Frz.fz)
theorem c5x (g g2 g3 g4:Nat) (S:List Bag) (R:List (List Int)) (A:List Bool) (hS:S.length≤1000) (hok:∀ b∈S,b.ok) (s:Bag) (hs:s.ok):a4Q Tryz.prog 46 [.pt 9101 g 0 0,a0n s.list] (dtL g g2 g3 g4 S R A) (intV (rfV S s)) (dtL g g2 g3 g4 S R A):=by
 intro c
 refine a0w Tryz.func46 rfl kr _ _ _ _ rfl 25 rfl rfl (fun X ok hX=>?_)
 refine ru 12 ?_
 refine a0l (α:=Nat) (fun x c=>⟨25,[(0,.v (.pt 9101 g 0 0)),(1,.v (a0n s.list)),(5,.v (intV x))],[(9101,dtO g g2 g3 g4 S.length R.length),(9102,sdO g2 S),(9103,nxO g3 R),(9104,acO g4 A)],c⟩) (fun x=>1≤x∧(x≤S.length∨x=1)∧∀ j,1≤j→j < x→S.getD j Bag.zero≠s) (fun x=>S.length+1 - x) (1) (by exact ⟨Nat.le_refl _,.inr rfl,fun j h1 h2=>by omega⟩) (a0c rfl (Nat.le_refl _) tsa hsa) (fun i c hx NhL1 hL1=>?_)
 (try dsimp only at hx hL1 ⊢)
 obtain ⟨hi1,hi2,hno⟩:=hx
 refine ru 12 ?_
 refine wdc (fun hr0 hc0=>?_) (fun hr0 hc0=>?_)
 ·skip
  have hil:i < S.length:=om
  refine ru 13 ?_
  refine rvl (a0n (S.getD i Bag.zero).list) ((by show a0n (S.getD (0+i) Bag.zero).list=_;rw [Nat.zero_add])) ?_
  refine ru 1 ?_
  refine cll (c2i (S.getD i Bag.zero).list s.list (a8n _) (a8n _)) ?_
  refine ru 2 ?_
  refine wdc (fun hr1 hc1=>?_) (fun hr1 hc1=>?_)
  ·skip
   have he:S.getD i Bag.zero=s:=Bag.ext_list _ _ (b5S hok hil) hs (by simpa using hr1)
   refine ru 9 ?_
   refine a0o ?_
   refine ru 2 ?_
   refine fr1 ok hX rw1 (()) (trivial) ((by rw [c7S hi1 hil hno he];exact kza)) ?_
   exact ⟨⟨_,rfl,(b9q rfl rfl rfl rfl rfl rfl)⟩,⟨⟨_,rfl,b8o⟩,⟨⟨_,rfl,(a3z rfl fun _ _ _ _=>.imm _)⟩,⟨⟨_,rfl,(a3z rfl fun _ _ _ _=>.imm _)⟩,trivial⟩⟩⟩⟩
  have he:S.getD i Bag.zero≠s:=(fun h=>by have h9:decide ((S.getD i Bag.zero).list=s.list)=false:=hr1;rw [h] at h9;simp at h9)
  refine ru 8 ?_
  exact hL1 (i+1) _ _ (by (try dsimp only);exact ⟨by omega,by omega,fun j h1 h2=>by rcases Nat.lt_succ_iff_lt_or_eq.1 h2 with h | rfl;exact hno j h1 h;exact he⟩) (by (try dsimp only);omega) (a0c rfl (Nat.le_refl _) (tsr rfl (tsr rfl (a0t.cons rfl (a0F om) a0t.nil))) hsa)
 have hie:S.length≤i:=om
 refine ru 2 ?_
 refine a0d ?_
 refine ru 8 ?_
 refine fr1 ok hX rw1 (()) (trivial) ((by rw [c7u (fun j h1 h2=>hno j h1 om)];exact kza)) ?_
 exact ⟨⟨_,rfl,(b9q rfl rfl rfl rfl rfl rfl)⟩,⟨⟨_,rfl,b8o⟩,⟨⟨_,rfl,(a3z rfl fun _ _ _ _=>.imm _)⟩,⟨⟨_,rfl,(a3z rfl fun _ _ _ _=>.imm _)⟩,trivial⟩⟩⟩⟩
set_option maxHeartbeats 2000000
@[reducible] def mbO (g n:Nat) (m:Nat→Bool):HObj:=⟨g,n,1,4,0,fun q _=>boolV (m q)⟩
def b2W (l:List Int) (m:Nat→Bool):Nat→Nat→Bool
 | 0=>m
 | k+1=>fun q=>b2W l m k q||decide ((q:Int)=l.getD k 0)
def c6c (β:Nat→Bag) (L:List Int) (M:Nat→Bool):Nat→Nat→Bool
 | 0=>M
 | i+1=>b2W (β (L.getD i 0).toNat).list (c6c β L M i) (β (L.getD i 0).toNat).list.length
def m0L (a:Nat) (first:Bag):List Int:=if a=0 then first.list else []
def a2A (β:Nat→Bag) (first:Bag) (S:List Bag) (a:Nat):Nat→Bool:=c6c β (S.getD a Bag.zero).list (b2W (m0L a first) (fun _=>false) (m0L a first).length) (S.getD a Bag.zero).list.length
def inK (l:List Int) (q:Nat) (B:Nat→List Int):Nat→Nat→List Int
 | 0=>B
 | k+1=>fun s=>if l.getD k 0=(s:Int) then inK l q B k s++[(q:Int)] else inK l q B k s
def a3K (m:Nat→Bool) (on:List Bag):Nat→Nat→List Int
 | 0=>fun _=>[]
 | q+1=>if m q=true then inK (onF on q).list q (a3K m on q) (onF on q).list.length else a3K m on q
theorem b4O {l:List Int} {q:Nat} {B:Nat→List Int}:∀ k s,(inK l q B k s).length≤(B s).length+k
  | 0,s=>Nat.le_refl _
  | k + 1, s => by
    have:=b4O (l:=l) (q:=q) (B:=B) k s
    show (if _ then _ else _:List Int).length≤_
    split
    · rw [List.length_append];simp;omega
    · omega
theorem b6l {m:Nat→Bool} {on:List Bag}:∀ q s,(a3K m on q s).length≤q * 256
  | 0,s=>Nat.zero_le _
  | q + 1, s => by
    have:=b6l (m:=m) (on:=on) q s
    unfold a3K
    split
    · have h2:=b4O (l:=(onF on q).list) (q:=q) (B:=a3K m on q) (onF on q).list.length s
      have:=a2H (onF on q)
      omega
    · omega
theorem c0n {g n k:Nat} {l:List Int} {m0:Nat→Bool} {v:Int} {F:HV} (hF:F=boolV true) (hv:l.getD k 0=v) (h0:0≤v):a2J ⟨g,n,1,4,0,upd (fun q _=>boolV (b2W l m0 k q)) (0+v.toNat) 0 1 (fun j=>F.cell j)⟩ (mbO g n (b2W l m0 (k+1))):=.of fun i j hi hj=>by
 subst hF
 obtain rfl:j=0:=by omega
 show Sb _ (boolV (b2W l m0 k i||decide ((i:Int)=l.getD k 0)))
 rw [hv]
 by_cases h:i=v.toNat
 ·rw [a8E ⟨by omega,by omega,by omega⟩,show decide ((i:Int)=v)=true from decide_eq_true (by omega),Bool.or_true];exact .refl _
 ·rw [a7t (by omega),show decide ((i:Int)=v)=false from decide_eq_false (by omega),Bool.or_false];exact .refl _
@[reducible] def rwO (g:Nat) (l:List Int):HObj:=⟨g,l.length,1,3,0,a4W l⟩
@[reducible] def rwb (gs:Nat→Nat) (B:Nat→List Int):Nat→HObj:=fun s=>rwO (gs s) (B s)
@[reducible] def arO (g:Nat) (ob:Nat→HObj):HObj:=⟨g,1,32,106,0,c4a 10000 ob⟩
theorem c5I {b i id c m:Nat} {ob:Nat→HObj}:c3n b ob i id c m 0 (0+i * 1)=.os id c 0 m:=by
 show (if 0+i * 1=i then _ else _)=_
 rw [if_pos (by omega)]
theorem b0X {C:Ctx} {n clk:Nat} {tm:List (Nat×TV)} (o id b i N go g m sz:Nat) (ty ty2:TypeId) (f:Nat→Nat→HV) (L:List (Nat×HObj)) (ob:Nat→HObj) (hoi:ob i=⟨g,m,sz,ty2,0,f⟩) (hi:i < N) (hob:o < b) (hid:id < b) (hne:id≠o) (hL:b3M b id L=true) {c':Nat} (hc:clk+1=c') :
  a4w C ⟨n,tm,(o,⟨go,1,N,ty,0,c4a b ob⟩)::(L++a4S b ob (fun _=>true) N),clk⟩ ⟨n,tm,(o,⟨go,1,N,ty,0,c3n b ob i id clk m⟩)::(id,⟨clk,m,sz,ty2,0,f⟩)::(L++a4S b ob (fun k=>k != i) N),c'⟩:=by
 subst hc
 have:=b3b (C:=C) (n:=n) (clk:=clk) (tm:=tm) o id b i N go ty L ob hi hob hid hne hL (by rw [hoi];exact Nat.zero_le _)
 rw [hoi] at this
 exact this
theorem c9o {zs:List Value} (hz:zs=List.replicate 32 (Value.slice none 0 0)):∀ j,j < 32→(HV.imm (zs.getD j undef))=.imm (.slice none 0 0):=fun j hj=>by
 subst hz;rw [List.getD_eq_getElem?_getD,List.getElem?_replicate,if_pos hj];rfl
@[reducible] def prV (p:Int×Int):Nat→HV:=fun j=>match j with
 | 0=>intV p.1
 | _=>intV p.2
@[reducible] def b7P (L:List (Int×Int)):List ((Int×Int)×Value):=L.map fun p=>(p,.bool true)
theorem b1s (q:Int×Int):∀ (L:List (Int×Int)) (i:Nat),(mfind q (b7P L) i).map (·.2)=if q∈L then some (.bool true) else none
  | [],i=>rfl
  | x :: r, i => by
    show (if q=x then some (i,Value.bool true) else mfind q (b7P r) (i+1)).map (·.2)=_
    by_cases e:q=x
    · rw [if_pos e,if_pos (by simp [e])];rfl
    · rw [if_neg e,b1s q r (i+1)];simp [e]
theorem c5N (L:List (Int×Int)) (q:Int×Int):lkV false (c3k (b7P L) q) (.bool false)=boolV (decide (q∈L)):=by
 unfold c3k;rw [b1s];by_cases h:q∈L <;> simp [h,lkV]
theorem c6f {L:List (Int×Int)} {q:Int×Int} (h:q∉L):c3p (b7P L) q (.bool true)=b7P (a9B L q):=by
 have h1:=b1s q L 0
 rw [if_neg h] at h1
 have h2:mfind q (b7P L) 0=none:=by
  cases hm:mfind q (b7P L) 0 with
  | none=>rfl
  | some p=>rw [hm] at h1;cases h1
 unfold c3p a9B;rw [h2,if_neg h];simp
@[reducible] def b7M (R:List (List Int)) (A:List Bool) (T:List (List Int)) (B:List Bool) (p:Int×Int):Bool:=(c3A R p.1&&A.getD p.1.toNat false) != (c3A T p.2&&B.getD p.2.toNat false)
@[reducible] def a7L (R T:List (List Int)) (p:Int×Int) (k:Nat):Int×Int:=(nxT R p.1 k,nxT T p.2 k)
def b1Z (n m:Nat):List (Int×Int):=(List.range (n+1)).flatMap fun (a:Nat)=>(List.range (m+1)).map fun (b:Nat)=>((a:Int) - 1,(b:Int) - 1)
theorem a8e {n m:Nat} {p:Int×Int} (h:-1≤p.1∧p.1 < n∧-1≤p.2∧p.2 < m):p∈b1Z n m:=by
 unfold b1Z
 rw [List.mem_flatMap]
 refine ⟨(p.1+1).toNat,by rw [List.mem_range];omega,List.mem_map.2 ⟨(p.2+1).toNat,by rw [List.mem_range];omega,Prod.ext (by show ((p.1+1).toNat:Int) - 1=p.1;omega) (by show ((p.2+1).toNat:Int) - 1=p.2;omega)⟩⟩
theorem b5h (n m:Nat):(b1Z n m).length=(n+1) * (m+1):=by
 unfold b1Z
 rw [List.length_flatMap]
 simp only [List.length_map,List.length_range]
 generalize m+1=b
 induction n with
 | zero=>simp [List.range_succ]
 | succ n ih=>rw [List.range_succ,List.map_append,List.sum_append,ih];simp;rw [Nat.add_mul (n+1) 1 b,Nat.one_mul]
@[reducible] def inT (R:List (List Int)):Prop:=∀ a s,-1≤nxT R a s∧nxT R a s < R.length
def c1Z (L:List (Int×Int)) (i lo:Nat) (Y:Nat→Nat→HV):Prop:=∀ j,j < L.length - i→∀ z,z < 2→Y (lo+j) z=prV (L.getD (i+j) (0,0)) z
theorem c1Z.on {L:List (Int×Int)} {i lo:Nat} {Y:Nat→Nat→HV} (h:c1Z L i lo Y):c1Z L (i+1) (lo+1) Y:=fun j hj z hz=>by
 have:=h (j+1) (by omega) z hz
 rw [show lo+1+j=lo+(j+1) by omega,this,show i+1+j=i+(j+1) by omega]
theorem c1Z.more {L:List (Int×Int)} {i lo:Nat} {Y fn:Nat→Nat→HV} {q:Int×Int} {r:Nat×(Nat→Nat→HV)} (h:c1Z L i lo Y) (hi:i≤L.length) (hq:q∉L) (hr:c9Y (L.length - i) 1 lo Y fn r) (hf:∀ z,z < 2→fn 0 z=prV q z):c1Z (a9B L q) i r.1 r.2:=fun j hj z hz=>by
 unfold a9B at hj ⊢
 rw [if_neg hq] at hj ⊢
 rw [List.length_append,List.length_singleton] at hj
 by_cases hl:j < L.length - i
 ·rw [(hr.2 j z).1 hl,h j hl z hz,List.getD_eq_getElem?_getD,List.getD_eq_getElem?_getD,List.getElem?_append_left (by omega)]
 ·obtain rfl:j=L.length - i:=by omega
  have:=(hr.2 0 z).2 (by omega)
  rw [Nat.add_zero] at this
  rw [this,hf z hz,List.getD_eq_getElem?_getD,List.getElem?_append_right (by omega),show i+(L.length - i) - L.length=0 by omega];rfl
theorem c3U {id g lo lo' n n':Nat} (h:lo=lo') (k:n=n'):Sb (.os id g lo n) (.os id g lo' n'):=by subst h;subst k;exact .refl _
theorem c0h {g n n' sz ty:Nat} {f:Nat→Nat→HV} (h:n=n'):a2J ⟨g,n,sz,ty,0,f⟩ ⟨g,n',sz,ty,0,f⟩:=by subst h;exact .refl _
theorem c2q {g:Nat} {l l':List (Value×Value)} (h:l=l'):a2J (a9L g l) (a9L g l'):=by subst h;exact .refl _
theorem c2n {L:List (Int×Int)} {q:Int×Int} (h:q∉L):(a9B L q).length=L.length+1:=by unfold a9B;rw [if_neg h];simp
theorem c9q {Y:Nat→Nat→HV} (h0:Y 0 0=intV 0) (h1:Y 0 1=intV 0):c1Z [(0,0)] 0 0 Y:=fun j hj z hz=>by
 obtain rfl:j=0:=by simp at hj;omega
 match z,hz with
 | 0,_=>exact h0
 | 1,_=>exact h1
theorem b5J (R:List (List Int)) (A:List Bool) (T:List (List Int)) (B:List Bool) (hR:inT R) (hT:inT T) (hn:R.length≤1000) (hm:T.length≤1000) (h0:0 < R.length) (h1:0 < T.length):HPure Tryz.prog 8 [tabP R A,tabP T B] (boolV (goQ (b7M R A T B) (a7L R T) (0,0) (b1Z R.length T.length).length 0 [(0,0)])):=by
 have hlen:(b1Z R.length T.length).length≤1002001:=by rw [b5h];exact Nat.mul_le_mul (show R.length+1≤1001 by omega) (show T.length+1≤1001 by omega)
 have hU:∀ p k,a7L R T p k∈b1Z R.length T.length:=fun p k=>a8e ⟨(hR _ _).1,(hR _ _).2,(hT _ _).1,(hT _ _).2⟩
 have hz:((0:Int),(0:Int))∈b1Z R.length T.length:=a8e ⟨by omega,by omega,by omega,by omega⟩
 generalize hUU:b1Z R.length T.length=U at hlen hU hz ⊢
 refine a0k Tryz.func8 rfl kr _ _ _ rfl 66 rfl rfl (fun w F=>?_)
 refine ru 16 ?_
 refine wdc (fun hr0 hc0=>?_) (fun hr0 hc0=>?_)
 ·skip
  exfalso;simp at hr0
 refine ru 4 ?_
 refine a0u 19 (a8I (id:=19)) rfl rfl a0g rfl rfl (c':=1) rfl ?_
 refine ru 1 ?_
 refine c1b (b6K b3J (l:=[]) (a:=(0,0)) (v:=.bool true) rfl rfl (a6C rfl (by intro i hi;match i,hi with | 0,_=>exact ⟨_,rfl,rfl⟩ | 1,_=>exact ⟨_,rfl,rfl⟩)) rfl) rfl rfl (a0P rfl) (c':=2) rfl ?_
 refine ru 8 ?_
 refine a0u 23 (a0b (id:=23) (hs:=[_]) ei_78.h omx rfl omx ⟨rfl,rfl,rfl,rfl,trivial⟩) rfl rfl a0g rfl rfl (c':=3) rfl ?_
 refine ru 4 ?_
 refine a0l (α:=Nat×Nat×List (Int×Int)×(Nat→Nat→HV)×Nat×Nat) (fun x c=>⟨66,[(0,.v (tabP R A)),(1,.v (tabP T B)),(5,.v (.mp 19 x.2.2.2.2.2)),(6,.v (.os 23 x.2.2.2.2.1 x.2.1 (x.2.2.1.length - x.1)))],[(19,a9L x.2.2.2.2.2 (encL a6s (b7P x.2.2.1))),(23,⟨x.2.2.2.2.1,x.2.1+(x.2.2.1.length - x.1),2,76,0,x.2.2.2.1⟩)],c⟩) (fun x=>x.1≤x.2.2.1.length∧x.2.2.1.Nodup∧(∀ p∈x.2.2.1,p∈U)∧goQ (b7M R A T B) (a7L R T) (0,0) U.length 0 [(0,0)]=goQ (b7M R A T B) (a7L R T) (0,0) U.length x.1 x.2.2.1∧x.2.1≤x.1∧c1Z x.2.2.1 x.1 x.2.1 x.2.2.2.1) (fun x=>U.length - x.1) ((0,0,[(0,0)],bsf [.agg 2 (bld [] (fun j=>.imm ([Value.int .i64 0,Value.int .i64 0].getD j undef)))],_,_)) (by exact ⟨by simp,by simp,by simpa using hz,rfl,Nat.le_refl _,c9q rfl rfl⟩) (a0c rfl (Nat.le_refl _) tsa hsa) (fun x c hx NhL1 hL1=>?_)
 revert hx hL1;obtain ⟨i,lo,L,Y,g,gm⟩:=x;intro hx hL1;dsimp only at hx hL1 ⊢
 obtain ⟨hx1,hx2,hx3,hx4,hx5,hx6⟩:=hx
 have hle:=a7Z hx2 hx3
 refine ru 8 ?_
 refine wdc (fun hr1 hc1=>?_) (fun hr1 hc1=>?_)
 ·skip
  have hi:i < L.length:=om;obtain ⟨p,hp⟩:∃ p,L.getD i (0,0)=p:=⟨_,rfl⟩;have hY0:Y lo 0=intV p.1:=(by have h9:=hx6 0 om 0 om;rw [Nat.add_zero,Nat.add_zero,hp] at h9;exact h9);have hY1:Y lo 1=intV p.2:=(by have h9:=hx6 0 om 1 om;rw [Nat.add_zero,Nat.add_zero,hp] at h9;exact h9)
  refine ru 13 ?_
  refine (a1b 7 ⟨c,1,2,76,0,fun _=>prV p⟩ rfl (by exact b1o (by show Sb (Y lo 0) _;rw [hY0];exact .refl _) (by show Sb (Y lo 1) _;rw [hY1];exact .refl _))).wp ?_
  refine ru 12 ?_
  refine clx (c3r R A _) ?_
  refine ru 3 ?_
  refine clx (c3r T B _) ?_
  refine ru 3 ?_
  refine wdc (fun hr2 hc2=>?_) (fun hr2 hc2=>?_)
  ·refine ru 8 ?_
   refine a0o ?_
   refine ru 2 ?_
   refine rt1 ?_
   exact a2c (by rw [hx4,b9L hi hle (by rw [hp];exact hr2)])
  have hbad:¬ b7M R A T B (L.getD i (0,0))=true:=(by rw [hp,show b7M R A T B p=false from hr2];simp)
  refine ru 8 ?_
  refine a0l (α:=Nat×Nat×List (Int×Int)×(Nat→Nat→HV)×Nat×Nat×Nat) (fun x c=>⟨66,[(0,.v (tabP R A)),(1,.v (tabP T B)),(5,.v (.mp 19 x.2.2.2.2.2.1)),(6,.v (.os 23 x.2.2.2.2.1 x.2.1 (x.2.2.1.length - (i+1)))),(7,.v (.pt 7 x.2.2.2.2.2.2 0 0)),(41,.v (intV (x.1:Int)))],[(19,a9L x.2.2.2.2.2.1 (encL a6s (b7P x.2.2.1))),(23,⟨x.2.2.2.2.1,x.2.1+(x.2.2.1.length - (i+1)),2,76,0,x.2.2.2.1⟩),(7,⟨x.2.2.2.2.2.2,1,2,76,0,fun _=>prV p⟩)],c⟩) (fun x=>x.1≤32∧x.2.2.1=b5I (a7L R T p) L x.1∧x.2.1≤i+1∧c1Z x.2.2.1 (i+1) x.2.1 x.2.2.2.1) (fun x=>32 - x.1) ((0,lo+1,L,Y,g,gm,_)) (by exact ⟨Nat.zero_le _,rfl,Nat.succ_le_succ hx5,hx6.on⟩) (a0c rfl (Nat.le_refl _) (tsr rfl (tsr rfl (tsr rfl (a0t.cons rfl (c3U rfl (by show _=L.length - (i+1);omega)) tsa)))) (hsr rfl (a0e.cons rfl (c0h (by show _=lo+1+(L.length - (i+1));omega)) hsa))) (fun x c hx NhL2 hL2=>?_)
  revert hx hL2;obtain ⟨k,lo2,L2,Y2,g2,gm2,g7⟩:=x;intro hx hL2;dsimp only at hx hL2 ⊢
  obtain ⟨hy1,hy0,hy2,hy3⟩:=hx
  have hrk:=b1a (a7L R T p) L k;have hrU:=a7Z (a4k hx2 k) (a5A hx3 (fun k=>hU p k) k);rw [←hy0] at hrk hrU
  refine ru 6 ?_
  refine wdc (fun hr3 hc3=>?_) (fun hr3 hc3=>?_)
  ·skip
   have hk32:k < 32:=om
   refine ru 16 ?_
   refine clx (c4l R A _ _) ?_
   refine ru 4 ?_
   refine clx (c4l T B _ _) ?_
   refine ru 1 ?_
   refine a2n 9 (a0T (id:=9) (sz:=2) zc_76.h rfl rfl omx omx) rfl rfl a0g rfl rfl (k':=12) rfl ?_
   refine ru 7 ?_
   refine st1 (HOp.val (v':=boolV (decide (a7L R T p k∈L2))) (b0c b3J (l:=b7P L2) (a:=a7L R T p k) rfl rfl (a6C rfl (by intro i hi;match i,hi with | 0,_=>exact ⟨_,rfl,rfl⟩ | 1,_=>exact ⟨_,rfl,rfl⟩))) (c5N _ _)) rfl rfl rfl ?_
   refine ru 3 ?_
   refine wdc (fun hr4 hc4=>?_) (fun hr4 hc4=>?_)
   ·skip
    have hnew:a7L R T p k∉L2:=(by simpa using hr4);have hn3:L2.length - (i+1)+1=(a9B L2 (a7L R T p k)).length - (i+1):=(by rw [c2n hnew];omega)
    refine ru 4 ?_
    refine c1b (a6l b3J (l:=b7P L2) (a:=a7L R T p k) (v:=.bool true) rfl rfl (a6C rfl (by intro i hi;match i,hi with | 0,_=>exact ⟨_,rfl,rfl⟩ | 1,_=>exact ⟨_,rfl,rfl⟩)) rfl) rfl rfl (a0P rfl) (c':=c+14) rfl ?_
    refine ru 5 ?_
    refine a0u 63 (a0b (id:=63) (hs:=[_]) ei_78.h omx rfl omx ⟨rfl,rfl,rfl,rfl,trivial⟩) rfl rfl a0g rfl rfl (c':=c+15) rfl ?_
    refine b3F (id:=23) 64 ei_78.h (nb rfl) rfl rfl (a0x rfl (nb rfl)) (a0i rfl a0g) (by decide) om rfl rfl rfl (c':=c+16) rfl ?_;rintro ⟨lo3,Y3⟩ hq;try dsimp only
    refine ru 8 ?_
    exact hL2 ((k+1,lo3,a9B L2 (a7L R T p k),Y3,c+15,gm2,g7)) _ _ (by (try dsimp only);exact ⟨by omega,by rw [hy0];rfl,Nat.le_trans hq.1 hy2,hy3.more om hnew hq (fun z hz2=>by match z,hz2 with | 0,_=>rfl | 1,_=>rfl)⟩) (by (try dsimp only);omega) (a0c rfl (Nat.le_refl _) (tsr rfl (tsr rfl (tsr rfl (a0t.cons rfl (c3U rfl hn3) (tsr rfl (a0t.cons rfl (a0F om) a0t.nil)))))) (a0e.cons rfl (c2q (by rw [c6f hnew])) (a0e.cons rfl (c0h (congrArg (lo3+·) hn3)) hsa)))
   have hold:a7L R T p k∈L2:=(by simpa using hr4)
   refine ru 7 ?_
   exact hL2 ((k+1,lo2,L2,Y2,g2,gm2,g7)) _ _ (by (try dsimp only);exact ⟨by omega,by show L2=a9B (b5I _ L k) _;rw [←hy0];unfold a9B;rw [if_pos hold],hy2,hy3⟩) (by (try dsimp only);omega) (a0c rfl (Nat.le_refl _) (tsr rfl (tsr rfl (tsr rfl (tsr rfl (tsr rfl (a0t.cons rfl (a0F om) a0t.nil)))))) hsa)
  obtain rfl:k=32:=om
  refine ru 2 ?_
  refine a0d ?_
  refine ru 2 ?_
  exact hL1 ((i+1,lo2,L2,Y2,g2,gm2)) _ _ (by (try dsimp only);exact ⟨by omega,by rw [hy0];exact a4k hx2 32,by rw [hy0];exact a5A hx3 (fun k=>hU _ k) 32,by rw [hy0,hx4,c4i hi hle hbad,hp],hy2,hy3⟩) (by (try dsimp only);omega) (a0c rfl (Nat.le_refl _) tsa hsa)
 refine ru 2 ?_
 refine a0d ?_
 refine ru 8 ?_
 refine rt1 ?_
 exact a2c (by rw [hx4,b9m om])
set_option maxHeartbeats 4000000
theorem c8k (g g2 g3 g4:Nat) (S:List Bag) (R:List (List Int)) (A:List Bool) (wd:Nat) (on:List Bag) (β:Nat→Bag) (p:Pc) (hw:wd≤256) (hF:InB 0 wd p.first) (hβ:∀ q,InB 0 wd (β q)) (a:Nat) (ha:a < S.length) (hS:S.length≤1000) (hSa:InB 0 wd (S.getD a Bag.zero)):a4Q Tryz.prog 45 [.pt 9101 g 0 0,ndR wd on β p,intV (a:Int)] (dtL g g2 g3 g4 S R A) (.agg 32 (fun s=>a0n (a3K (a2A β p.first S a) on wd s))) (dtL g g2 g3 g4 S R A):=by
 intro c0
 obtain ⟨nl,hzs⟩:∃ nl,nl=List.replicate 32 (Value.slice none 0 0):=⟨_,rfl⟩
 refine a0w Tryz.func45 rfl kr _ _ _ _ rfl 118 rfl rfl (fun X ok hX=>?_)
 refine ru 11 ?_
 refine a0u 19 (c1L (id:=19) (n:=_) (m:=_) ei_26.h omx omx rfl rfl rfl rfl omx omx omx rfl) rfl rfl a0g rfl rfl (c':=c0+3) rfl ?_
 refine ru 10 ?_
 refine a0l (α:=Nat) (fun x c=>⟨118,[(0,.v (.pt 9101 g 0 0)),(2,.v (intV (a:Int))),(4,.v (.pt 4 c0 0 0)),(6,.v (.pt 6 (c0+1) 0 0)),(7,.v (.os 19 (c0+2) 0 wd)),(8,.v (intV x))],[(9101,dtO g g2 g3 g4 S.length R.length),(9102,sdO g2 S),(9103,nxO g3 R),(9104,acO g4 A),(4,⟨c0,1,5,65,0,fun _=>ndF (.sl 1 wd (lrF (onF on))) (.sl 1 wd (lrF β)) p 0⟩),(6,⟨c0+1,1,32,106,0,fun _ j=>.imm (nl.getD j undef)⟩),(19,mbO (c0+2) wd (b2W (m0L a p.first) (fun _=>false) x))],c⟩) (fun x=>x≤(m0L a p.first).length) (fun x=>(m0L a p.first).length - x) (0) om (a0c rfl (Nat.le_refl _) tsa (hsr rfl (hsr rfl (hsr rfl (hsr rfl (hsr rfl (a0e.cons rfl (.of fun i j hi hj=>by subst hzs;exact .refl _) (a0e.cons rfl (.of fun i j hi hj=>by obtain rfl:j=0:=om;exact .refl _) a0e.nil)))))))) (fun i c hx NhL1 hL1=>?_)
 (try dsimp only at hx hL1 ⊢)
 refine ru 14 ?_
 refine wdc (fun hr0 hc0=>?_) (fun hr0 hc0=>?_)
 ·skip
  have ha0:a=0:=(by simp at hr0;omega);have hm0:m0L a p.first=p.first.list:=if_pos ha0;have hil:i < p.first.list.length:=(by simp at hr0;omega);have hlb:=a2H p.first;obtain ⟨v,hv256,hvA,hv⟩:=a4J p.first hil;have hvw:=hF v hv256 hvA
  refine ru 11 ?_
  refine rvl (intV (v:Int)) ((by show intV (p.first.list.getD i 0)=_;rw [hv])) ?_
  refine ru 10 ?_
  exact hL1 (i+1) _ _ (by (try dsimp only);rw [hm0];omega) (by (try dsimp only);rw [hm0];omega) (a0c rfl (Nat.le_refl _) (tsr rfl (tsr rfl (tsr rfl (tsr rfl (tsr rfl (a0t.cons rfl (a0F om) a0t.nil)))))) (hsr rfl (hsr rfl (hsr rfl (hsr rfl (hsr rfl (hsr rfl (a0e.cons rfl (c0n rfl (by rw [hm0];exact hv) om) a0e.nil))))))))
 have hie:i=(m0L a p.first).length:=(by by_cases h:a=0;(have e:m0L a p.first=p.first.list:=if_pos h;rw [e] at hx ⊢;simp [h] at hr0;omega);(have e:m0L a p.first=[]:=if_neg h;rw [e] at hx ⊢;simp at hx ⊢;omega));subst hie
 refine ru 2 ?_
 refine a0d ?_
 refine ru 9 ?_
 refine a0l (α:=Nat) (fun x c=>⟨118,[(0,.v (.pt 9101 g 0 0)),(2,.v (intV (a:Int))),(4,.v (.pt 4 c0 0 0)),(6,.v (.pt 6 (c0+1) 0 0)),(7,.v (.os 19 (c0+2) 0 wd)),(9,.v (intV x))],[(9101,dtO g g2 g3 g4 S.length R.length),(9102,sdO g2 S),(9103,nxO g3 R),(9104,acO g4 A),(4,⟨c0,1,5,65,0,fun _=>ndF (.sl 1 wd (lrF (onF on))) (.sl 1 wd (lrF β)) p 0⟩),(6,⟨c0+1,1,32,106,0,fun _ j=>.imm (nl.getD j undef)⟩),(19,mbO (c0+2) wd (c6c β (S.getD a Bag.zero).list (b2W (m0L a p.first) (fun _=>false) (m0L a p.first).length) x))],c⟩) (fun x=>x≤(S.getD a Bag.zero).list.length) (fun x=>(S.getD a Bag.zero).list.length - x) (0) om (a0c rfl (Nat.le_refl _) tsa hsa) (fun i c hx NhL2 hL2=>?_)
 (try dsimp only at hx hL2 ⊢)
 refine ru 11 ?_
 refine rvl (a0n (S.getD a Bag.zero).list) ((by show a0n (S.getD (0+a) Bag.zero).list=_;rw [Nat.zero_add])) ?_
 refine ru 4 ?_
 refine wdc (fun hr1 hc1=>?_) (fun hr1 hc1=>?_)
 ·skip
  have hil:i < (S.getD a Bag.zero).list.length:=om;have hlb:=a2H (S.getD a Bag.zero);obtain ⟨v,hv256,hvA,hv⟩:=a4J (S.getD a Bag.zero) hil;have hvw:=hSa v hv256 hvA;have hom:c6c β (S.getD a Bag.zero).list (b2W (m0L a p.first) (fun _=>false) (m0L a p.first).length) (i+1)=b2W (β v).list (c6c β (S.getD a Bag.zero).list (b2W (m0L a p.first) (fun _=>false) (m0L a p.first).length) i) (β v).list.length:=(by show b2W (β ((S.getD a Bag.zero).list.getD i 0).toNat).list _ _=_;rw [hv];rfl)
  refine ru 14 ?_
  first
  | refine a3I 58 (HOp.val (v':=a0n (S.getD a Bag.zero).list) (a0D ty_49.h rfl (by first | exact Nat.le_of_ble_eq_true rfl | omega | (dsimp only;omega) | (simp <;> omega)) (by first | exact Nat.le_of_ble_eq_true rfl | omega | (dsimp only;omega) | (simp <;> omega)) (fun h=>(by first | rfl | cases h))) ((by show a0n (S.getD (0+a) Bag.zero).list=_;rw [Nat.zero_add]))) rfl rfl (a0P rfl) rfl rfl (k':=9) rfl ?_
  | refine a3I 58 (HOp.val (v':=a0n (S.getD a Bag.zero).list) (a0r ty_49.h rfl (by first | exact Nat.le_of_ble_eq_true rfl | omega | (dsimp only;omega) | (simp <;> omega)) (fun h=>(by first | rfl | cases h))) ((by show a0n (S.getD (0+a) Bag.zero).list=_;rw [Nat.zero_add]))) rfl rfl a0g rfl rfl (k':=9) rfl ?_
  refine ru 2 ?_
  first
  | refine a3I 61 (HOp.val (v':=intV (v:Int)) (a0D ty_3.h rfl (by first | exact Nat.le_of_ble_eq_true rfl | omega | (dsimp only;omega) | (simp <;> omega)) (by first | exact Nat.le_of_ble_eq_true rfl | omega | (dsimp only;omega) | (simp <;> omega)) (fun h=>(by first | rfl | cases h))) ((by show intV ((S.getD a Bag.zero).list.getD i 0)=_;rw [hv]))) rfl rfl (a0P rfl) rfl rfl (k':=12) rfl ?_
  | refine a3I 61 (HOp.val (v':=intV (v:Int)) (a0r ty_3.h rfl (by first | exact Nat.le_of_ble_eq_true rfl | omega | (dsimp only;omega) | (simp <;> omega)) (fun h=>(by first | rfl | cases h))) ((by show intV ((S.getD a Bag.zero).list.getD i 0)=_;rw [hv]))) rfl rfl a0g rfl rfl (k':=12) rfl ?_
  refine ru 1 ?_
  first
  | refine a3I 63 (HOp.val (v':=a0n (β v).list) (a0D ty_49.h rfl (by first | exact Nat.le_of_ble_eq_true rfl | omega | (dsimp only;omega) | (simp <;> omega)) (by first | exact Nat.le_of_ble_eq_true rfl | omega | (dsimp only;omega) | (simp <;> omega)) (fun h=>(by first | rfl | cases h))) (rfl)) rfl rfl (a0P rfl) rfl rfl (k':=14) rfl ?_
  | refine a3I 63 (HOp.val (v':=a0n (β v).list) (a0r ty_49.h rfl (by first | exact Nat.le_of_ble_eq_true rfl | omega | (dsimp only;omega) | (simp <;> omega)) (fun h=>(by first | rfl | cases h))) (rfl)) rfl rfl a0g rfl rfl (k':=14) rfl ?_
  refine ru 9 ?_
  refine a0l (α:=Nat) (fun x c=>⟨118,[(0,.v (.pt 9101 g 0 0)),(2,.v (intV (a:Int))),(4,.v (.pt 4 c0 0 0)),(6,.v (.pt 6 (c0+1) 0 0)),(7,.v (.os 19 (c0+2) 0 wd)),(9,.v (intV i)),(10,.v (a0n (β v).list)),(11,.v (intV x))],[(9101,dtO g g2 g3 g4 S.length R.length),(9102,sdO g2 S),(9103,nxO g3 R),(9104,acO g4 A),(4,⟨c0,1,5,65,0,fun _=>ndF (.sl 1 wd (lrF (onF on))) (.sl 1 wd (lrF β)) p 0⟩),(6,⟨c0+1,1,32,106,0,fun _ j=>.imm (nl.getD j undef)⟩),(19,mbO (c0+2) wd (b2W (β v).list (c6c β (S.getD a Bag.zero).list (b2W (m0L a p.first) (fun _=>false) (m0L a p.first).length) i) x))],c⟩) (fun x=>x≤(β v).list.length) (fun x=>(β v).list.length - x) (0) om (a0c rfl (Nat.le_refl _) tsa hsa) (fun k c hx NhL3 hL3=>?_)
  (try dsimp only at hx hL3 ⊢)
  refine ru 9 ?_
  refine wdc (fun hr2 hc2=>?_) (fun hr2 hc2=>?_)
  ·skip
   have hkl:k < (β v).list.length:=om;have hlc:=a2H (β v);obtain ⟨u,hu256,huA,hu⟩:=a4J (β v) hkl;have huw:=hβ v u hu256 huA
   refine ru 10 ?_
   refine rvl (intV (u:Int)) ((by show intV ((β v).list.getD k 0)=_;rw [hu])) ?_
   refine ru 10 ?_
   exact hL3 (k+1) _ _ (by (try dsimp only);omega) (by (try dsimp only);omega) (a0c rfl (Nat.le_refl _) (tsr rfl (tsr rfl (tsr rfl (tsr rfl (tsr rfl (tsr rfl (tsr rfl (a0t.cons rfl (a0F om) a0t.nil)))))))) (hsr rfl (hsr rfl (hsr rfl (hsr rfl (hsr rfl (hsr rfl (a0e.cons rfl (c0n rfl hu om) a0e.nil))))))))
  obtain rfl:k=(β v).list.length:=om
  refine ru 2 ?_
  refine a0d ?_
  refine ru 8 ?_
  exact hL2 (i+1) _ _ (by (try dsimp only);omega) (by (try dsimp only);omega) (a0c rfl (Nat.le_refl _) (tsr rfl (tsr rfl (tsr rfl (tsr rfl (tsr rfl (a0t.cons rfl (a0F om) a0t.nil)))))) (hsr rfl (hsr rfl (hsr rfl (hsr rfl (hsr rfl (hsr rfl (a0e.cons rfl (by rw [hom];exact .refl _) a0e.nil))))))))
 obtain rfl:i=(S.getD a Bag.zero).list.length:=om;let k0:=c
 refine ru 2 ?_
 refine a0d ?_
 refine ru 4 ?_
 refine s0 (a5z (m:=32) (hs:=[]) ar_106.h rfl rfl trivial) ?_
 refine ru 6 ?_
 refine (a6e (hp':=(12,⟨k0,1,32,106,0,fun _ j=>.imm (nl.getD j undef)⟩)::[(9101,dtO g g2 g3 g4 S.length R.length),(9102,sdO g2 S),(9103,nxO g3 R),(9104,acO g4 A),(4,⟨c0,1,5,65,0,fun _=>ndF (.sl 1 wd (lrF (onF on))) (.sl 1 wd (lrF β)) p 0⟩),(6,⟨c0+1,1,32,106,0,fun _ j=>.imm (nl.getD j undef)⟩),(19,mbO (c0+2) wd (a2A β p.first S a))]) (a0e.cons rfl (.of fun i j hi hj=>by subst hzs;exact .refl _) (hsr rfl (hsr rfl (hsr rfl (hsr rfl (hsr rfl (hsr rfl (hsr rfl (a0e.nil)))))))))).wp ?_;refine (c0l 12 10000 32 k0 1 106 3 (a4W []) _ [(9101,dtO g g2 g3 g4 S.length R.length),(9102,sdO g2 S),(9103,nxO g3 R),(9104,acO g4 A),(4,⟨c0,1,5,65,0,fun _=>ndF (.sl 1 wd (lrF (onF on))) (.sl 1 wd (lrF β)) p 0⟩),(6,⟨c0+1,1,32,106,0,fun _ j=>.imm (nl.getD j undef)⟩),(19,mbO (c0+2) wd (a2A β p.first S a))] (c9o hzs) (by decide) rfl (by decide)).wp ?_
 refine ru 5 ?_
 refine a0l (α:=Nat×(Nat→Nat)) (fun x c=>⟨118,[(0,.v (.pt 9101 g 0 0)),(2,.v (intV (a:Int))),(4,.v (.pt 4 c0 0 0)),(6,.v (.pt 6 (c0+1) 0 0)),(7,.v (.os 19 (c0+2) 0 wd)),(12,.v (.pt 12 k0 0 0)),(13,.v (intV x.1))],((12,arO k0 (rwb x.2 (a3K (a2A β p.first S a) on x.1)))::(9101,dtO g g2 g3 g4 S.length R.length)::(9102,sdO g2 S)::(9103,nxO g3 R)::(9104,acO g4 A)::(4,⟨c0,1,5,65,0,fun _=>ndF (.sl 1 wd (lrF (onF on))) (.sl 1 wd (lrF β)) p 0⟩)::(6,⟨c0+1,1,32,106,0,fun _ j=>.imm (nl.getD j undef)⟩)::(19,mbO (c0+2) wd (a2A β p.first S a))::a4S 10000 (rwb x.2 (a3K (a2A β p.first S a) on x.1)) (fun _=>true) 32),c⟩) (fun x=>x.1≤wd) (fun x=>wd - x.1) ((0,fun k=>k0+2+k)) om (a0c rfl (Nat.le_refl _) tsa (hsr rfl (hsr rfl (hsr rfl (hsr rfl (hsr rfl (hsr rfl (hsr rfl (hsr rfl (by repeat (first | exact a0e.refl _ | exact a8t | refine a0e.skip ?_ rfl))))))))))) (fun x c hx NhL4 hL4=>?_)
 revert hx hL4;obtain ⟨q,gs⟩:=x;intro hx hL4;dsimp only at hx hL4 ⊢
 refine ru 9 ?_
 refine wdc (fun hr3 hc3=>?_) (fun hr3 hc3=>?_)
 ·skip
  have hqw:q < wd:=om
  refine ru 10 ?_
  refine a0l (α:=Nat×(Nat→Nat)) (fun x c=>⟨118,[(0,.v (.pt 9101 g 0 0)),(2,.v (intV (a:Int))),(4,.v (.pt 4 c0 0 0)),(6,.v (.pt 6 (c0+1) 0 0)),(7,.v (.os 19 (c0+2) 0 wd)),(12,.v (.pt 12 k0 0 0)),(13,.v (intV q)),(14,.v (intV x.1))],((12,arO k0 (rwb x.2 (inK (onF on q).list q (a3K (a2A β p.first S a) on q) x.1)))::(9101,dtO g g2 g3 g4 S.length R.length)::(9102,sdO g2 S)::(9103,nxO g3 R)::(9104,acO g4 A)::(4,⟨c0,1,5,65,0,fun _=>ndF (.sl 1 wd (lrF (onF on))) (.sl 1 wd (lrF β)) p 0⟩)::(6,⟨c0+1,1,32,106,0,fun _ j=>.imm (nl.getD j undef)⟩)::(19,mbO (c0+2) wd (a2A β p.first S a))::a4S 10000 (rwb x.2 (inK (onF on q).list q (a3K (a2A β p.first S a) on q) x.1)) (fun _=>true) 32),c⟩) (fun x=>x.1≤(onF on q).list.length∧(x.1=0∨(a2A β p.first S a) q=true)) (fun x=>(onF on q).list.length - x.1) ((0,gs)) (by exact ⟨Nat.zero_le _,.inl rfl⟩) (a0c rfl (Nat.le_refl _) tsa (hsr rfl (hsr rfl (hsr rfl (hsr rfl (hsr rfl (hsr rfl (hsr rfl (hsr rfl (by repeat (first | exact a0e.refl _ | exact a8t | refine a0e.skip ?_ rfl))))))))))) (fun x c hx NhL5 hL5=>?_)
  revert hx hL5;obtain ⟨k,hs⟩:=x;intro hx hL5;dsimp only at hx hL5 ⊢
  obtain ⟨hk,hkm⟩:=hx
  refine ru 7 ?_
  refine rvl (boolV ((a2A β p.first S a) q)) ((by show boolV ((a2A β p.first S a) (0+q))=_;rw [Nat.zero_add])) ?_
  refine ru 12 ?_
  refine wdc (fun hr4 hc4=>?_) (fun hr4 hc4=>?_)
  ·skip
   have hmq:(a2A β p.first S a) q=true:=(by simp at hr4;exact hr4.1);have hkl:k < (onF on q).list.length:=(by simp at hr4;exact hr4.2);have hld:=a2H (onF on q);obtain ⟨s,hs256,hsA,hs0⟩:=a4J (onF on q) hkl
   refine ru 14 ?_
   refine rvl (intV (s:Int)) ((by show intV ((onF on q).list.getD k 0)=_;rw [hs0])) ?_
   refine ru 9 ?_
   refine wdc (fun hr5 hc5=>?_) (fun hr5 hc5=>?_)
   ·skip
    have hs32:s < 32:=om;have hA:(inK (onF on q).list q (a3K (a2A β p.first S a) on q) (k+1)) s=(inK (onF on q).list q (a3K (a2A β p.first S a) on q) k) s++[(q:Int)]:=if_pos hs0;have hB:∀ j,j≠s→(inK (onF on q).list q (a3K (a2A β p.first S a) on q) (k+1)) j=(inK (onF on q).list q (a3K (a2A β p.first S a) on q) k) j:=(fun j hj=>if_neg (by rw [hs0];omega));have heq:∀ j,j < 32→fup (rwb hs (inK (onF on q).list q (a3K (a2A β p.first S a) on q) k)) s ⟨c+4,((inK (onF on q).list q (a3K (a2A β p.first S a) on q) (k+1)) s).length,1,3,0,a4W ((inK (onF on q).list q (a3K (a2A β p.first S a) on q) (k+1)) s)⟩ j=rwb (fun t=>if t=s then c+4 else hs t) (inK (onF on q).list q (a3K (a2A β p.first S a) on q) (k+1)) j:=(fun j _=>by unfold fup;by_cases e:j=s;(subst e;rw [if_pos rfl];show _=rwO (if j=j then _ else _) _;rw [if_pos rfl]);(rw [if_neg e];show rwO _ _=rwO (if j=s then _ else _) _;rw [if_neg e,hB j e]))
    have hl1:=b4O (l:=(onF on q).list) (q:=q) (B:=a3K (a2A β p.first S a) on q) k s;have hl2:=b6l (m:=(a2A β p.first S a)) (on:=on) q s;have hl3:=a2H (onF on q);refine (b0X 12 9377 10000 s 32 k0 (hs s) ((inK (onF on q).list q (a3K (a2A β p.first S a) on q) k) s).length 1 106 3 (a4W ((inK (onF on q).list q (a3K (a2A β p.first S a) on q) k) s)) [(9101,dtO g g2 g3 g4 S.length R.length),(9102,sdO g2 S),(9103,nxO g3 R),(9104,acO g4 A),(4,⟨c0,1,5,65,0,fun _=>ndF (.sl 1 wd (lrF (onF on))) (.sl 1 wd (lrF β)) p 0⟩),(6,⟨c0+1,1,32,106,0,fun _ j=>.imm (nl.getD j undef)⟩),(19,mbO (c0+2) wd (a2A β p.first S a))] (rwb hs (inK (onF on q).list q (a3K (a2A β p.first S a) on q) k)) rfl hs32 (by decide) (by decide) (by decide) rfl (c':=c+1) rfl).wp ?_
    refine ru 5 ?_
    refine rvl (HV.os 9377 c 0 ((inK (onF on q).list q (a3K (a2A β p.first S a) on q) k) s).length) ((by exact c5I)) ?_
    refine ru 1 ?_
    refine a0u 114 (a0b (id:=114) (hs:=[_]) ei_49.h omx rfl omx ⟨rfl,rfl,rfl,rfl,trivial⟩) rfl rfl a0g rfl rfl (c':=c+2) rfl ?_
    first
    | refine a0u 115 (a0a ei_49.h (by first | exact Nat.le_of_ble_eq_true rfl | omega | (dsimp only;omega) | (simp <;> omega)) rfl (by first | exact Nat.le_of_ble_eq_true rfl | omega | (dsimp only;omega) | (simp <;> omega)) (by first | exact Nat.le_of_ble_eq_true rfl | omega | (dsimp only;omega) | (simp <;> omega)) (a0x rfl (by first | exact Nat.le_of_ble_eq_true rfl | omega | (dsimp only;omega) | (simp <;> omega))) (by first | exact Nat.le_of_ble_eq_true rfl | omega | (dsimp only;omega) | (simp <;> omega)) rfl) rfl rfl (a0i rfl (a0P rfl)) rfl rfl (c':=c+3) rfl ?_
    | refine a0u 115 (a0a ei_49.h (by first | exact Nat.le_of_ble_eq_true rfl | omega | (dsimp only;omega) | (simp <;> omega)) rfl (by first | exact Nat.le_of_ble_eq_true rfl | omega | (dsimp only;omega) | (simp <;> omega)) (by first | exact Nat.le_of_ble_eq_true rfl | omega | (dsimp only;omega) | (simp <;> omega)) (a0U rfl (by first | exact Nat.le_of_ble_eq_true rfl | omega | (dsimp only;omega) | (simp <;> omega))) (by first | exact Nat.le_of_ble_eq_true rfl | omega | (dsimp only;omega) | (simp <;> omega)) rfl) rfl rfl (a0i rfl (a0P rfl)) rfl rfl (c':=c+3) rfl ?_
    | refine a0u 115 (a0a ei_49.h (by first | exact Nat.le_of_ble_eq_true rfl | omega | (dsimp only;omega) | (simp <;> omega)) rfl (by first | exact Nat.le_of_ble_eq_true rfl | omega | (dsimp only;omega) | (simp <;> omega)) (by first | exact Nat.le_of_ble_eq_true rfl | omega | (dsimp only;omega) | (simp <;> omega)) (a0O rfl) (by first | exact Nat.le_of_ble_eq_true rfl | omega | (dsimp only;omega) | (simp <;> omega)) rfl) rfl rfl (a0i rfl a0g) rfl rfl (c':=c+3) rfl ?_
    | refine a0u 115 (a0a ei_49.h (by first | exact Nat.le_of_ble_eq_true rfl | omega | (dsimp only;omega) | (simp <;> omega)) rfl (by first | exact Nat.le_of_ble_eq_true rfl | omega | (dsimp only;omega) | (simp <;> omega)) (by first | exact Nat.le_of_ble_eq_true rfl | omega | (dsimp only;omega) | (simp <;> omega)) (a0A 1 (fun _ _=>default) rfl) (by first | exact Nat.le_of_ble_eq_true rfl | omega | (dsimp only;omega) | (simp <;> omega)) rfl) rfl rfl (a0i rfl a0g) rfl rfl (c':=c+3) rfl ?_
    refine ru 10 ?_
    exact hL5 ((k+1,fun t=>if t=s then c+4 else hs t)) _ _ (by (try dsimp only);exact ⟨by omega,.inr hmq⟩) (by (try dsimp only);omega) (a4w.trans (a6e (a0e.cons (o':=⟨k0,1,32,106,0,c3n 10000 (rwb hs (inK (onF on q).list q (a3K (a2A β p.first S a) on q) k)) s 9377 (c+2) ((inK (onF on q).list q (a3K (a2A β p.first S a) on q) (k+1)) s).length⟩) rfl (.of fun i' j hi' hj=>by obtain rfl:i'=0:=om;by_cases e:j=s;(subst e;rw [a8E ⟨rfl,by omega,by omega⟩];show Sb _ (if j=j then _ else _);rw [if_pos rfl];exact a3l (by rw [hA];simp));(rw [a7t om];show Sb (if j=s then _ else _) (if j=s then _ else _);rw [if_neg e,if_neg e];exact .refl _)) (a0e.cons (o':=⟨c+2,((inK (onF on q).list q (a3K (a2A β p.first S a) on q) (k+1)) s).length,1,3,0,a4W ((inK (onF on q).list q (a3K (a2A β p.first S a) on q) (k+1)) s)⟩) rfl (by rw [hA];exact a0G (enc:=fun x _=>intV x) (d:=0) rfl (fun _ _ _ _=>.refl _) (fun _ _=>.refl _)) (hsr rfl (hsr rfl (hsr rfl (hsr rfl (hsr rfl (hsr rfl (hsr rfl ((by repeat (first | exact a0e.refl _ | exact a8t | refine a0e.skip ?_ rfl))))))))))))) (a4w.trans (b6y 12 9377 10000 s 32 k0 (c+2) ((inK (onF on q).list q (a3K (a2A β p.first S a) on q) (k+1)) s).length 1 0 106 3 (a4W ((inK (onF on q).list q (a3K (a2A β p.first S a) on q) (k+1)) s)) [(9101,dtO g g2 g3 g4 S.length R.length),(9102,sdO g2 S),(9103,nxO g3 R),(9104,acO g4 A),(4,⟨c0,1,5,65,0,fun _=>ndF (.sl 1 wd (lrF (onF on))) (.sl 1 wd (lrF β)) p 0⟩),(6,⟨c0+1,1,32,106,0,fun _ j=>.imm (nl.getD j undef)⟩),(19,mbO (c0+2) wd (a2A β p.first S a))] (rwb hs (inK (onF on q).list q (a3K (a2A β p.first S a) on q) k)) om (by decide) (by decide) (by decide) rfl) (a0c rfl (Nat.le_refl _) (tsr rfl (tsr rfl (tsr rfl (tsr rfl (tsr rfl (tsr rfl (tsr rfl (a0t.cons rfl (a0F om) a0t.nil)))))))) (a0e.cons rfl (.of fun i' j hi' hj=>by have e:=heq j hj;show Sb (.os _ (fup _ _ _ j).g 0 (fup _ _ _ j).n) (.os _ (if j=s then c+4 else hs j) 0 ((inK (onF on q).list q (a3K (a2A β p.first S a) on q) (k+1)) j).length);rw [e];exact .refl _) (hsr rfl (hsr rfl (hsr rfl (hsr rfl (hsr rfl (hsr rfl (hsr rfl ((by repeat (first | exact a9g (fun j hj _=>heq j hj) | refine a0e.skip ?_ rfl))))))))))))))
   have hno:∀ j,j < 32→(inK (onF on q).list q (a3K (a2A β p.first S a) on q) k) j=(inK (onF on q).list q (a3K (a2A β p.first S a) on q) (k+1)) j:=(fun j hj=>(if_neg (by rw [hs0];omega)).symm)
   refine ru 8 ?_
   exact hL5 ((k+1,hs)) _ _ (by (try dsimp only);exact ⟨by omega,.inr hmq⟩) (by (try dsimp only);omega) (a0c rfl (Nat.le_refl _) (tsr rfl (tsr rfl (tsr rfl (tsr rfl (tsr rfl (tsr rfl (tsr rfl (a0t.cons rfl (a0F om) a0t.nil)))))))) (a0e.cons rfl (.of fun i' j hi' hj=>by show Sb (.os _ _ 0 ((inK (onF on q).list q (a3K (a2A β p.first S a) on q) k) j).length) (.os _ _ 0 ((inK (onF on q).list q (a3K (a2A β p.first S a) on q) (k+1)) j).length);rw [hno j hj];exact .refl _) (hsr rfl (hsr rfl (hsr rfl (hsr rfl (hsr rfl (hsr rfl (hsr rfl ((by repeat (first | exact a9g (fun j hj _=>by show rwO _ _=rwO _ _;rw [hno j hj]) | refine a0e.skip ?_ rfl))))))))))))
  have hend:∀ t,(inK (onF on q).list q (a3K (a2A β p.first S a) on q) k) t=a3K (a2A β p.first S a) on (q+1) t:=(fun t=>by by_cases h:(a2A β p.first S a) q=true;(have hk2:k=(onF on q).list.length:=(by rw [h] at hr4;have:=of_decide_eq_false hr4;rw [Int.toNat_natCast] at this;omega);show _=(if (a2A β p.first S a) q=true then _ else _:Nat→List Int) t;rw [if_pos h,hk2]);(have hk0:k=0:=(hkm.resolve_right h);subst hk0;show _=(if (a2A β p.first S a) q=true then _ else _:Nat→List Int) t;rw [if_neg h];rfl))
  refine ru 2 ?_
  refine a0d ?_
  refine ru 8 ?_
  exact hL4 ((q+1,hs)) _ _ (by (try dsimp only);omega) (by (try dsimp only);omega) (a0c rfl (Nat.le_refl _) (tsr rfl (tsr rfl (tsr rfl (tsr rfl (tsr rfl (tsr rfl (a0t.cons rfl (a0F om) a0t.nil))))))) (a0e.cons rfl (.of fun i' j hi' hj=>by show Sb (.os _ _ 0 ((inK (onF on q).list q (a3K (a2A β p.first S a) on q) k) j).length) (.os _ _ 0 (a3K (a2A β p.first S a) on (q+1) j).length);rw [hend j];exact .refl _) (hsr rfl (hsr rfl (hsr rfl (hsr rfl (hsr rfl (hsr rfl (hsr rfl ((by repeat (first | exact a9g (fun j hj _=>by show rwO _ _=rwO _ _;rw [hend j]) | refine a0e.skip ?_ rfl))))))))))))
 obtain rfl:q=wd:=om
 refine ru 2 ?_
 refine a0d ?_
 refine ru 9 ?_
 exact a1t ok hX a3g.one rfl (a0J rfl rfl ty_106.h (fun h=>by cases h) rfl rfl) (a4S 10000 (rwb gs (a3K (a2A β p.first S a) on q)) (fun _=>true) 32) (b9e 32) (b8M (fun k hk=>by (repeat rw [b9V rfl]);exact b4K hk) 32 (Nat.le_refl _)) () trivial rfl rfl (.fz _ _ (.agg _ _ _ fun s hs=>Fz.os (10000+s) (gs s) 0 _ (rwO (gs s) (a3K (a2A β p.first S a) on q s)) _ (b8e hs) rfl (Nat.le_of_eq (Nat.zero_add _)) (fun i j hi hj=>by rw [Nat.zero_add];exact .imm _))) ⟨⟨_,rfl,b9q rfl rfl rfl rfl rfl rfl⟩,⟨_,rfl,b8o⟩,⟨_,rfl,a3z rfl fun _ _ _ _=>.imm _⟩,⟨_,rfl,a3z rfl fun _ _ _ _=>.imm _⟩,trivial⟩
end Go.Proofs.YtdbbbafiegpbpaaGreatDoor
namespace Go.Proofs.YtdbbbafiegpbpaaGreatDoor
set_option linter.unusedSimpArgs false
set_option linter.unusedVariables false
theorem b7A {l:List Int} {P:Int→Prop}:(∃ k,k < l.length∧P (l.getD k 0))↔∃ v∈l,P v:=by
 constructor
 ·rintro ⟨k,hk,h⟩
  rw [List.getD_eq_getElem?_getD,List.getElem?_eq_getElem hk] at h
  exact ⟨_,List.getElem_mem hk,h⟩
 ·rintro ⟨v,hv,h⟩
  obtain ⟨k,hk,e⟩:=List.getElem_of_mem hv
  exact ⟨k,hk,by rw [List.getD_eq_getElem?_getD,List.getElem?_eq_getElem hk];show P l[k];rw [e];exact h⟩
theorem a4Y {k:Nat} {P:Nat→Prop}:(∃ j,j < k+1∧P j)↔(∃ j,j < k∧P j)∨P k:=by
 constructor
 ·rintro ⟨j,hj,h⟩
  rcases Nat.lt_succ_iff_lt_or_eq.1 hj with h1 | rfl
  ·exact .inl ⟨j,h1,h⟩
  ·exact .inr h
 ·rintro (⟨j,hj,h⟩ | h)
  ·exact ⟨j,by omega,h⟩
  ·exact ⟨k,by omega,h⟩
theorem a7o {P:Nat→Prop}:(∃ j,j < 0∧P j)↔False:=⟨fun ⟨j,h,_⟩=>absurd h (Nat.not_lt_zero j),False.elim⟩
theorem b8W {l:List Int} {m:Nat→Bool} {q:Nat}:∀ k,b2W l m k q=true↔m q=true∨∃ j,j < k∧(q:Int)=l.getD j 0
  | 0=>by rw [a7o,or_false];rfl
  | k + 1 => by
    rw [a4Y,←or_assoc,←b8W k]
    show (b2W l m k q||decide _)=true↔_
    rw [Bool.or_eq_true,decide_eq_true_eq]
theorem b5V {l:List Int} {m:Nat→Bool} {q:Nat}:b2W l m l.length q=true↔m q=true∨(q:Int)∈l:=by
 rw [b8W,b7A (P:=fun v=>(q:Int)=v)]
 simp
theorem b9M {β:Nat→Bag} {L:List Int} {M:Nat→Bool} {q:Nat}:∀ i,c6c β L M i q=true↔M q=true∨∃ j,j < i∧(q:Int)∈(β (L.getD j 0).toNat).list
  | 0=>by rw [a7o,or_false];rfl
  | i + 1 => by
    rw [a4Y,←or_assoc,←b9M i]
    exact b5V
theorem c6J {β:Nat→Bag} {first:Bag} {S:List Bag} {a q:Nat}:a2A β first S a q=true↔(a=0∧(q:Int)∈first.list)∨∃ v∈(S.getD a Bag.zero).list,(q:Int)∈(β v.toNat).list:=by
 unfold a2A
 rw [b9M,b5V,b7A (P:=fun v=>(q:Int)∈(β v.toNat).list)]
 unfold m0L
 by_cases h:a=0 <;> simp [h]
theorem c3Z {l:List Int} (hn:l.Nodup) {q:Nat} {B:Nat→List Int} {s:Nat}:∀ k,k≤l.length→inK l q B k s=B s++(if ∃ j,j < k∧l.getD j 0=(s:Int) then [(q:Int)] else [])
  | 0,_=>by rw [if_neg (by rw [a7o];exact id),List.append_nil];rfl
  | k + 1, hk => by
    show (if l.getD k 0=(s:Int) then inK l q B k s++[(q:Int)] else inK l q B k s)=_
    rw [c3Z hn k (by omega)]
    by_cases h:l.getD k 0=(s:Int)
    · rw [if_pos h,if_pos (a4Y.2 (.inr h)),if_neg,List.append_nil]
      rintro ⟨j,hj,e⟩
      rw [←h,List.getD_eq_getElem?_getD,List.getD_eq_getElem?_getD,List.getElem?_eq_getElem (by omega),List.getElem?_eq_getElem (by omega)] at e
      have:=(List.pairwise_iff_getElem.1 hn) j k (by omega) (by omega) hj
      exact this e
    · rw [if_neg h]
      congr 1
      by_cases h2:∃ j,j < k∧l.getD j 0=(s:Int)
      · rw [if_pos h2,if_pos (a4Y.2 (.inl h2))]
      · rw [if_neg h2,if_neg (fun h3=>(a4Y.1 h3).elim h2 h)]
theorem b8a {m:Nat→Bool} {on:List Bag} {s:Nat}:∀ q,a3K m on q s=((List.range q).filter (fun p=>m p&&decide ((s:Int)∈(onF on p).list))).map (fun j:Nat=>(j:Int))
  | 0=>rfl
  | q + 1 => by
    rw [List.range_succ,List.filter_append,List.map_append,←b8a q]
    show (if m q=true then inK (onF on q).list q (a3K m on q) (onF on q).list.length else a3K m on q:Nat→List Int) s=_
    have hex:(∃ j,j < (onF on q).list.length∧(onF on q).list.getD j 0=(s:Int))↔(s:Int)∈(onF on q).list:=by
      rw [b7A (P:=fun v=>v=(s:Int))];simp
    by_cases h:m q=true
    · rw [if_pos h,c3Z (b0d _) _ (Nat.le_refl _)]
      congr 1
      by_cases h2:(s:Int)∈(onF on q).list
      · rw [if_pos (hex.2 h2),List.filter_cons_of_pos (by rw [h,decide_eq_true h2];rfl)];rfl
      · rw [if_neg (fun h3=>h2 (hex.1 h3)),List.filter_cons_of_neg (by rw [decide_eq_false h2,Bool.and_false];decide)];rfl
    · rw [if_neg h,List.filter_cons_of_neg (by rw [eq_false_of_ne_true h,Bool.false_and];decide)];simp
theorem b0p {f g:Nat→Bool} {n:Nat}:∀ k,(∀ p,p < n→g p=f p)→(∀ p,n≤p→p < n+k→g p=false)→(List.range (n+k)).filter g=(List.range n).filter f
  | 0,h1,h2=>List.filter_congr fun p hp=>h1 p (List.mem_range.1 hp)
  | k + 1, h1, h2 => by
    rw [←Nat.add_assoc,List.range_succ,List.filter_append,b0p k h1 (fun p a b=>h2 p a (by omega)),List.filter_cons_of_neg (by rw [h2 (n+k) (by omega) (by omega)];decide),List.filter_nil,List.append_nil]
theorem b1O {l:List Int} {B:Nat→Bag} {p:Int} {s j:Nat} (hj:j < 256):∀ k,(b1F l B p k s).has j=true↔(B s).has j=true∨((j:Int)=p∧s < 32∧∃ i,i < k∧l.getD i 0=(s:Int))
  | 0=>by rw [a7o];simp [b1F]
  | k + 1 => by
    rw [a4Y]
    unfold b1F
    by_cases h:l.getD k 0=(s:Int)∧s < 32
    · rw [if_pos h,Bag.with_has _ _ _ hj,Bool.or_eq_true,decide_eq_true_eq,b1O hj k]
      have h1:=h.1
      have h2:=h.2
      constructor
      · rintro (e | e | e)
        · exact .inr ⟨e,h2,.inr h1⟩
        · exact .inl e
        · exact .inr ⟨e.1,e.2.1,.inl e.2.2⟩
      · rintro (e | ⟨e,_,e2⟩)
        · exact .inr (.inl e)
        · exact .inl e
    · rw [if_neg h,b1O hj k]
      constructor
      · rintro (e | ⟨e,e2,e3⟩)
        · exact .inl e
        · exact .inr ⟨e,e2,.inl e3⟩
      · rintro (e | ⟨e,e2,e3 | e3⟩)
        · exact .inl e
        · exact .inr ⟨e,e2,e3⟩
        · exact absurd ⟨e3,e2⟩ h
theorem b6c {L:List Int} {O:Int→Bag} {s j:Nat} (hj:j < 256):∀ k,(b7H L O k s).has j=true↔∃ i,i < k∧((j:Int)=L.getD i 0∧s < 32∧(s:Int)∈(O (L.getD i 0)).list)
  | 0=>by rw [a7o];simp [b7H,Bag.zero_has]
  | k + 1 => by
    rw [a4Y,←b6c hj k]
    show (b1F (O (L.getD k 0)).list (b7H L O k) (L.getD k 0) (O (L.getD k 0)).list.length s).has j=true↔_
    rw [b1O hj,b7A (P:=fun v=>v=(s:Int))]
    simp
theorem a6n {wd:Nat} {on:List Bag} {m:Bag} {s j:Nat} (hj:j < 256) (hs:s < 32):(a1E wd on m s).has j=true↔m.has j=true∧j < wd∧(s:Int)∈(onF on j).list:=by
 unfold a1E
 rw [b6c hj,b7A (P:=fun v=>(j:Int)=v∧s < 32∧(s:Int)∈(onI wd on v).list)]
 constructor
 ·rintro ⟨v,hv,rfl,_,h⟩
  by_cases hw:j < wd
  ·refine ⟨(m.mem_list j hj).1 hv,hw,?_⟩
   unfold onI at h
   rwa [if_pos ⟨by omega,by omega⟩,Int.toNat_natCast] at h
  ·unfold onI at h
   rw [if_neg (by omega)] at h
   rw [Bag.mem_list _ _ (by omega),Bag.zero_has] at h
   cases h
 ·rintro ⟨h1,h2,h3⟩
  refine ⟨(j:Int),(m.mem_list j hj).2 h1,rfl,hs,?_⟩
  unfold onI
  rwa [if_pos ⟨by omega,by omega⟩,Int.toNat_natCast]
theorem b6s {wd:Nat} {β:Nat→Bag} {L:List Int} {q:Nat}:∀ k,(c0U wd β L k).has q=true↔∃ j,j < k∧(beI wd β (L.getD j 0)).has q=true
  | 0=>by rw [a7o];simp [c0U,Bag.zero_has]
  | k + 1 => by
    rw [a4Y,←b6s k]
    show (bun _ _).has q=true↔_
    rw [b0w,Bool.or_eq_true]
theorem b4Z {wd:Nat} (hw:wd≤256) {on:List Bag} {β:Nat→Bag} {first:Bag} {S:List Bag} {a s:Nat} (hs:s < 32) (h0:S.getD 0 Bag.zero=Bag.zero) (hSa:InB 0 wd (S.getD a Bag.zero)):a3K (a2A β first S a) on wd s=(gD wd on β first S a s).list:=by
  rw [b8a,Bag.list_eq]
  congr 1
  obtain ⟨k,hk⟩:∃ k,256=wd+k:=⟨256 - wd,by omega⟩
  have hz:∀ v:Int,v∉Bag.zero.list:=by
    intro v hv
    rw [Bag.list_eq,List.mem_map] at hv
    obtain ⟨j,hj,rfl⟩:=hv
    have:=(List.mem_filter.1 hj).2
    rw [Bag.zero_has] at this;cases this
  have key:∀ p,p < 256→((gD wd on β first S a s).has p=true↔p < wd∧a2A β first S a p=true∧(s:Int)∈(onF on p).list):=by
    intro p hp
    rw [c6J]
    cases a with
    | zero =>
      show (a1E wd on first s).has p=true↔_
      rw [a6n hp hs,h0,←first.mem_list p hp]
      constructor
      · rintro ⟨x1,x2,x3⟩;exact ⟨x2,.inl ⟨rfl,x1⟩,x3⟩
      · rintro ⟨x1,x2 | ⟨v,hv,_⟩,x3⟩
        · exact ⟨x2.2,x1,x3⟩
        · exact absurd hv (hz v)
    | succ a =>
      show (a1E wd on (c0U wd β (S.getD (a+1) Bag.zero).list (S.getD (a+1) Bag.zero).list.length) s).has p=true↔_
      rw [a6n hp hs,b6s,b7A (P:=fun v=>(beI wd β v).has p=true)]
      constructor
      · rintro ⟨⟨v,hv,x1⟩,x2,x3⟩
        refine ⟨x2,.inr ⟨v,hv,?_⟩,x3⟩
        unfold beI at x1
        split at x1
        · exact (Bag.mem_list _ p hp).2 x1
        · rw [Bag.zero_has] at x1;cases x1
      · rintro ⟨x1,x2 | ⟨v,hv,x2⟩,x3⟩
        · exact absurd x2.1 (Nat.succ_ne_zero a)
        · refine ⟨⟨v,hv,?_⟩,x1,x3⟩
          rw [Bag.list_eq,List.mem_map] at hv
          obtain ⟨j,hj,rfl⟩:=hv
          have h1:=List.mem_filter.1 hj
          have h2:=hSa j (List.mem_range.1 h1.1) h1.2
          unfold beI
          rw [if_pos ⟨by omega,by omega⟩]
          exact (Bag.mem_list _ p hp).1 x2
  symm
  rw [hk]
  refine b0p k (fun p hp=>?_) (fun p h1 h2=>?_)
  · rw [Bool.eq_iff_iff,key p (by omega),Bool.and_eq_true,decide_eq_true_eq]
    exact ⟨fun h=>h.2,fun h=>⟨hp,h⟩⟩
  · cases h : (gD wd on β first S a s).has p with
    | false=>rfl
    | true=>have:=(key p (by omega)).1 h;omega
theorem c9K {wd:Nat} {on:List Bag} {β:Nat→Bag} {first:Bag} {S:List Bag} {a s:Nat} (hs:s < 32):InB 0 wd (gD wd on β first S a s):=fun p hp h=>by
 cases a with
 | zero=>exact ⟨Nat.zero_le _,((a6n hp hs).1 h).2.1⟩
 | succ a=>exact ⟨Nat.zero_le _,((a6n hp hs).1 h).2.1⟩
theorem c0D {wd:Nat} {on:List Bag} {β:Nat→Bag} {first:Bag} {S:List Bag} {a s:Nat}:(gD wd on β first S a s).ok:=by
 cases a with
 | zero=>exact a5j _ _ _ _
 | succ a=>exact a5j _ _ _ _
structure SetOk (wd:Nat) (S:List Bag):Prop where
 one:0 < S.length
 fst:S.getD 0 Bag.zero=Bag.zero
 ok:∀ b∈S,b.ok
 inb:∀ b∈S,InB 0 wd b
theorem SetOk.at {wd:Nat} {S:List Bag} (h:SetOk wd S) {a:Nat} (ha:a < S.length):(S.getD a Bag.zero).ok∧InB 0 wd (S.getD a Bag.zero):=by
 rw [List.getD_eq_getElem?_getD,List.getElem?_eq_getElem ha]
 exact ⟨h.ok _ (List.getElem_mem ha),h.inb _ (List.getElem_mem ha)⟩
theorem SetOk.put {wd:Nat} {S:List Bag} (h:SetOk wd S) {b:Bag} (hb:b.ok) (hi:InB 0 wd b):SetOk wd (a4a Bag.zero S b).1:=by
  unfold a4a
  split
  · exact h
  · cases idA S b with
    | some n=>exact h
    | none =>
      have hl:=h.one
      refine ⟨by show 0 < (S++[b]).length;simp,by show (S++[b]).getD 0 Bag.zero=_;rw [b7i hl];exact h.fst,fun x hx=>?_,fun x hx=>?_⟩
      · rcases List.mem_append.1 hx with hx | hx
        · exact h.ok x hx
        · simp at hx;subst hx;exact hb
      · rcases List.mem_append.1 hx with hx | hx
        · exact h.inb x hx
        · simp at hx;subst hx;exact hi
theorem SetOk.row {wd:Nat} {S:List Bag} (h:SetOk wd S) {g:Nat→Bag} (hg:∀ k,k < 32→(g k).ok∧InB 0 wd (g k)):∀ k,k≤32→SetOk wd (a1z Bag.zero g S k).1
 | 0,_=>h
 | k+1,hk=>(h.row hg k (by omega)).put (hg k (by omega)).1 (hg k (by omega)).2
theorem SetOk.zero (wd:Nat):SetOk wd [Bag.zero]:=⟨by decide,rfl,fun b hb=>by simp at hb;subst hb;exact Bag.zero_ok,fun b hb=>by simp at hb;subst hb;exact fun p _ h=>by rw [Bag.zero_has] at h;cases h⟩
theorem b8Z {S:List Bag} {b:Bag} (hb:b≠Bag.zero):a4a Bag.zero S b=if rfV S b < 0 then (S++[b],(S.length:Int)) else (S,rfV S b):=by
 unfold a4a rfV
 rw [if_neg hb]
 cases idA S b with
 | some n=>show (S,(n:Int))=if (n:Int) < 0 then _ else (S,(n:Int));rw [if_neg (by omega)]
 | none=>show (S++[b],(S.length:Int))=if (-1:Int) < 0 then (S++[b],(S.length:Int)) else _;rw [if_pos (by omega)]
theorem a8w {b:Bag} (hb:b.ok):b.list=[]↔b=Bag.zero:=by
 constructor
 ·intro h
  refine Bag.ext_has _ _ hb Bag.zero_ok fun k hk=>?_
  rw [Bag.zero_has]
  cases h1:b.has k with
  | false=>rfl
  | true=>have:=(b.mem_list k hk).2 h1;rw [h] at this;cases this
 ·rintro rfl
  rw [Bag.list_eq,List.map_eq_nil_iff,List.filter_eq_nil_iff]
  intro k _
  rw [Bag.zero_has];decide
end Go.Proofs.YtdbbbafiegpbpaaGreatDoor
namespace Go.Proofs.YtdbbbafiegpbpaaGreatDoor
set_option linter.unusedSimpArgs false
set_option linter.unusedVariables false
set_option maxRecDepth 100000
set_option maxHeartbeats 4000000
open Go.RowKit
theorem b8C {g ty fl:Nat} {f f':Nat→Nat→HV} (h0:Sb (f 0 0) (f' 0 0)) (h1:Sb (f 0 1) (f' 0 1)) (h2:Sb (f 0 2) (f' 0 2)) (hfn:fl≤1:=by exact Nat.zero_le _):a2J ⟨g,1,3,ty,fl,f⟩ ⟨g,1,3,ty,fl,f'⟩:=.of (hfn:=hfn) fun i j hi hj=>by
 obtain rfl:i=0:=by omega
 match j,hj with | 0,_=>exact h0 | 1,_=>exact h1 | 2,_=>exact h2
def d0a (p:Pc):Option (List Bag×List (List Int))→HV
 | some (S,R)=>t2 (tabD S R (accS p.empty p.ends S)) (boolV true)
 | none=>t2 (.agg 3 fun _=>.imm (.slice none 0 0)) (boolV false)
theorem c9n {sh:List (Nat×HObj)} {g2 g3 g4 n m:Nat} {S:List Bag} {R:List (List Int)} {A:List Bool} (hn:n=S.length) (hm:m=R.length) (m2:(9102,sdO g2 S)∈sh) (m3:(9103,nxO g3 R)∈sh) (m4:(9104,acO g4 A)∈sh) (hA:A.length=S.length):∀ i,i < 3→Fz sh (dtF g2 g3 g4 n m i) (tdF S R A i):=fun i hi=>by
  subst hn;subst hm
  match i,hi with
  | 0,_=>exact Fz.os 9102 g2 0 S.length (sdO g2 S) _ m2 rfl (Nat.le_of_eq (Nat.zero_add _)) (fun i j hi hj=>by rw [Nat.zero_add];show Fz sh (a0n _) (a0n _);exact Frz.fz)
  | 1,_=>exact Fz.os 9103 g3 0 R.length (nxO g3 R) _ m3 rfl (Nat.le_of_eq (Nat.zero_add _)) (fun i j hi hj=>by rw [Nat.zero_add];exact .imm _)
  | 2, _ =>
    show Fz sh (.os 9104 g4 0 S.length) (.sl 1 A.length _)
    rw [←hA]
    exact Fz.os 9104 g4 0 A.length (acO g4 A) _ m4 rfl (Nat.le_of_eq (Nat.zero_add _)) (fun i j hi hj=>by rw [Nat.zero_add];exact .imm _)
theorem c4P:Sb (.imm (.slice none 0 0)) (a0n Bag.zero.list):=by
 rw [(a8w Bag.zero_ok).2 rfl];exact Sb.nil 0 1 _ (Nat.zero_le _) _
theorem c2s {e:Bool} {E:Bag} {S:List Bag} (hS:0 < S.length) (s:Bag):accS e E (S++[s])=accS e E S++[decide (s.mix a6Z E 4≠Bag.zero)]:=by
 cases S with
 | nil=>simp at hS
 | cons x r=>simp [accS]
theorem b4i {z:Bag} {g:Nat→Bag} {S A:List Bag} {k:Nat} {x:Int} (h:a4a z (a1z z g S k).1 (g k)=(A,x)):(a1z z g S (k+1)).1=A∧(a1z z g S (k+1)).2=(a1z z g S k).2++[x]:=by
 have e:a1z z g S (k+1)=((a4a z (a1z z g S k).1 (g k)).1,(a1z z g S k).2++[(a4a z (a1z z g S k).1 (g k)).2]):=rfl
 rw [e,h];exact ⟨rfl,rfl⟩
theorem c8n {zs:List Value} (hz:zs=List.replicate 32 (Value.int .i64 0)) {j:Nat} (hj:j < 32) {x:HV} (hx:x=intV 0):Sb (.imm (zs.getD j undef)) x:=by
 subst hz;subst hx
 rw [show (List.replicate 32 (Value.int .i64 0)).getD j undef=.int .i64 0 from by rw [List.getD_eq_getElem?_getD,List.getElem?_replicate,if_pos hj];rfl];exact .refl _
theorem b4h {g s off:Nat} {r:List Int} {x:Int} (hr:r.length=s) (hs:s < 32) (ho:off=s):a2J ⟨g,1,32,50,0,upd (fun _ j=>intV (r.getD j 0)) 0 off 1 (fun j=>(intV x).cell j)⟩ ⟨g,1,32,50,0,fun _ j=>intV ((r++[x]).getD j 0)⟩:=.of fun i j hi hj=>by
 subst ho;subst hr
 obtain rfl:i=0:=by omega
 by_cases h:j=r.length
 ·subst h
  rw [a8E ⟨rfl,by omega,by omega⟩,b7h rfl];exact .refl _
 ·rw [a7t (by omega)]
  rcases Nat.lt_or_ge j r.length with h2 | h2
  ·rw [b7i h2];exact .refl _
  ·rw [b0Y (l:=r) h2,b0Y (l:=r++[x]) (by simp;omega)];exact .refl _
theorem c1v (wd:Nat) (on:List Bag) (β:Nat→Bag) (p:Pc) (hw:wd≤256) (hF:InB 0 wd p.first) (hβ:∀ q,InB 0 wd (β q)) (hpk:p.ok):HPure Tryz.prog 22 [ndR wd on β p] (d0a p (tabV wd on β p)):=by
 refine b2M Tryz.func22 rfl kr _ _ _ rfl 76 rfl rfl (fun w F=>?_)
 refine ru 9 ?_
 refine a0u 11 (a0b (id:=9102) (hs:=[_]) ei_24.h (nb rfl) rfl (nb rfl) ⟨rfl,rfl,rfl,rfl,trivial⟩) rfl rfl a0g rfl rfl (c':=3) rfl ?_
 refine ru 2 ?_
 refine a0u 14 (a0b (id:=9104) (hs:=[_]) ei_26.h (nb rfl) rfl (nb rfl) ⟨rfl,rfl,rfl,rfl,trivial⟩) rfl rfl a0g rfl rfl (c':=4) rfl ?_
 refine ru 1 ?_
 refine a0u 4 (a0T (id:=9101) (sz:=3) zc_28.h rfl rfl (nb rfl) (nb rfl)) rfl rfl a0g rfl rfl (c':=5) rfl ?_
 refine ru 5 ?_
 refine (a1b 9101 ⟨4,1,3,28,0,fun _ j=>match j with | 0=>.os 9102 2 0 1 | 1=>.imm (.slice none 0 0) | _=>.os 9104 3 0 1⟩ rfl (b8C (.refl _) (.refl _) (.refl _))).wp ?_;refine (a1x 9101 1 9103 32 50 (b8j []) (fun _=>dtF 2 6 3 1 0) rfl rfl (fun j hj=>by match j,hj with | 0,_=>exact .inr rfl | 1,_=>exact .inl ⟨rfl,rfl⟩ | 2,_=>exact .inr rfl) (by decide) (by decide) (c':=7) rfl).wp ?_
 refine ru 5 ?_
 refine a0l (α:=Nat×Nat×Nat×Nat×List Bag×List (List Int)) (fun x c=>⟨76,[(1,.v (.pt 1 0 0 0)),(2,.v (.pt 2 1 0 0)),(3,.v (boolV false)),(4,.v (.pt 9101 4 0 0)),(5,.v (intV (x.1:Int)))],[(9101,dtO 4 x.2.1 x.2.2.1 x.2.2.2.1 x.2.2.2.2.1.length x.2.2.2.2.2.length),(9102,sdO x.2.1 x.2.2.2.2.1),(9103,nxO x.2.2.1 x.2.2.2.2.2),(9104,acO x.2.2.2.1 (accS p.empty p.ends x.2.2.2.2.1)),(1,⟨0,1,5,65,0,fun _=>ndF (.sl 1 wd (lrF (onF on))) (.sl 1 wd (lrF β)) p 0⟩),(2,⟨1,1,3,28,0,fun _ _=>.imm (.slice none 0 0)⟩)],c⟩) (fun x=>x.1≤x.2.2.2.2.1.length∧x.2.2.2.2.2.length=x.1∧x.2.2.2.2.1.length≤200∧SetOk wd x.2.2.2.2.1∧tabV wd on β p=goA Bag.zero (gD wd on β p.first) x.1 x.2.2.2.2.1 x.2.2.2.2.2) (fun x=>201 - x.1) ((0,2,6,3,[Bag.zero],[])) (by exact ⟨by decide,rfl,by decide,SetOk.zero wd,rfl⟩) (a0c rfl (Nat.le_refl _) tsa (hsr rfl (a0e.cons rfl (.of fun i j hi hj=>by obtain rfl:i=0:=om;exact c4P) (hsr rfl (a0e.cons rfl (.of fun i j hi hj=>by obtain rfl:i=0:=om;exact .refl _) (hsr rfl (a0e.cons rfl (.of fun i j hi hj=>by match j,hj with | 0,_=>exact .refl _ | 1,_=>exact .refl _ | 2,_=>exact .refl _) a0e.nil))))))) (fun x c hx NhL1 hL1=>?_)
 revert hx hL1;obtain ⟨a,g2,g3,g4,S,R⟩:=x;intro hx hL1;dsimp only at hx hL1 ⊢
 obtain ⟨haS,hRa,hS2,hok,hT⟩:=hx
 refine ru 10 ?_
 refine wdc (fun hr0 hc0=>?_) (fun hr0 hc0=>?_)
 ·skip
  have ha:a < S.length:=om;have hSa:=hok.at ha;have hst:=b1b (z:=Bag.zero) (g:=gD wd on β p.first) (R:=R) ha hS2;let k0:=c
  refine ru 6 ?_
  refine s0 (a5z (m:=32) (hs:=[]) ar_50.h rfl rfl trivial) ?_
  refine ru 8 ?_
  refine hq_ 26 (a0E (xs:=[_,_,_]) (pre:=[(9101,_),(9102,_),(9103,_),(9104,_)]) (c8k 4 g2 g3 g4 S R (accS p.empty p.ends S) wd on β p hw hF hβ a ha om hSa.2) ⟨rfl,⟨rfl,⟨rfl,trivial⟩⟩⟩) rfl rfl (a0i rfl (a0i rfl (a0i rfl (a0i rfl a0g)))) rfl rfl ?_
  refine ru 11 ?_
  refine a0l (α:=Nat×Nat×Nat) (fun x c=>⟨76,[(1,.v (.pt 1 0 0 0)),(2,.v (.pt 2 1 0 0)),(3,.v (boolV false)),(4,.v (.pt 9101 4 0 0)),(5,.v (intV (a:Int))),(6,.v (.pt 6 k0 0 0)),(7,.v (.pt 7 (k0+2) 0 0)),(8,.v (intV x.1))],[(9101,dtO 4 x.2.1 g3 x.2.2 (a1z Bag.zero (gD wd on β p.first S a) S x.1).1.length R.length),(9102,sdO x.2.1 (a1z Bag.zero (gD wd on β p.first S a) S x.1).1),(9103,nxO g3 R),(9104,acO x.2.2 (accS p.empty p.ends (a1z Bag.zero (gD wd on β p.first S a) S x.1).1)),(1,⟨0,1,5,65,0,fun _=>ndF (.sl 1 wd (lrF (onF on))) (.sl 1 wd (lrF β)) p 0⟩),(2,⟨1,1,3,28,0,fun _ _=>.imm (.slice none 0 0)⟩),(6,⟨k0,1,32,50,0,fun _ j=>intV ((a1z Bag.zero (gD wd on β p.first S a) S x.1).2.getD j 0)⟩),(7,⟨k0+2,1,32,106,0,fun _ j=>a0n ((gD wd on β p.first S a) j).list⟩)],c⟩) (fun x=>x.1≤32) (fun x=>32 - x.1) ((0,g2,g4)) om (a0c rfl (Nat.le_refl _) tsa (hsr rfl (hsr rfl (hsr rfl (hsr rfl (hsr rfl (hsr rfl (a0e.cons rfl (.of fun i j hi hj=>c8n rfl hj rfl) (a0e.cons rfl (.of fun i j hi hj=>by show Sb (a0n (a3K (a2A β p.first S a) on wd j)) _;rw [b4Z hw hj hok.fst hSa.2];exact .refl _) a0e.nil))))))))) (fun x c hx NhL2 hL2=>?_)
  revert hx hL2;obtain ⟨s,q2,q4⟩:=x;intro hx hL2;dsimp only at hx hL2 ⊢
  have hl:=a3O Bag.zero (gD wd on β p.first S a) S s;have hok1:=hok.row (g:=(gD wd on β p.first S a)) (fun k hk=>⟨c0D,c9K hk⟩) s om;have hone:=hok1.one;have hAl:=a6M p.empty p.ends (a1z Bag.zero (gD wd on β p.first S a) S s).1
  refine ru 7 ?_
  refine wdc (fun hr1 hc1=>?_) (fun hr1 hc1=>?_)
  ·skip
   have hs32:s < 32:=om
   refine ru 9 ?_
   refine rvl (a0n ((gD wd on β p.first S a) s).list) ((by show a0n ((gD wd on β p.first S a) (0+s * 1)).list=_;rw [Nat.mul_one,Nat.zero_add])) ?_
   refine ru 16 ?_
   refine wdc (fun hr2 hc2=>?_) (fun hr2 hc2=>?_)
   ·skip
    have h9:=of_decide_eq_true hr2;have hne:(gD wd on β p.first S a) s≠Bag.zero:=(fun e=>by rw [(a8w c0D).2 e] at h9;simp at h9)
    refine ru 3 ?_
    refine hq_ 38 (a0E (xs:=[_,_]) (pre:=[(9101,_),(9102,_),(9103,_),(9104,_)]) (c5x 4 q2 g3 q4 (a1z Bag.zero (gD wd on β p.first S a) S s).1 R (accS p.empty p.ends (a1z Bag.zero (gD wd on β p.first S a) S s).1) om (hok1.ok) ((gD wd on β p.first S a) s) c0D) ⟨rfl,⟨rfl,trivial⟩⟩) rfl rfl (a0i rfl (a0i rfl (a0i rfl (a0i rfl a0g)))) rfl rfl ?_
    refine ru 9 ?_
    refine wdc (fun hr3 hc3=>?_) (fun hr3 hc3=>?_)
    ·skip
     have hP:a4a Bag.zero (a1z Bag.zero (gD wd on β p.first S a) S s).1 ((gD wd on β p.first S a) s)=((a1z Bag.zero (gD wd on β p.first S a) S s).1++[(gD wd on β p.first S a) s],((a1z Bag.zero (gD wd on β p.first S a) S s).1.length:Int)):=(by rw [b8Z hne,if_pos (of_decide_eq_true hr3)]);obtain ⟨A1,A2⟩:=b4i hP
     refine ru 13 ?_
     refine a0u 47 (a0b (id:=47) (hs:=[_]) ei_24.h omx rfl omx ⟨rfl,rfl,rfl,rfl,trivial⟩) rfl rfl a0g rfl rfl (c':=c+1) rfl ?_
     first
     | refine a0u 48 (a0a ei_24.h (by first | exact Nat.le_of_ble_eq_true rfl | omega | (dsimp only;omega) | (simp <;> omega)) rfl (by first | exact Nat.le_of_ble_eq_true rfl | omega | (dsimp only;omega) | (simp <;> omega)) (by first | exact Nat.le_of_ble_eq_true rfl | omega | (dsimp only;omega) | (simp <;> omega)) (a0x rfl (by first | exact Nat.le_of_ble_eq_true rfl | omega | (dsimp only;omega) | (simp <;> omega))) (by first | exact Nat.le_of_ble_eq_true rfl | omega | (dsimp only;omega) | (simp <;> omega)) rfl) rfl rfl (a0i rfl (a0P rfl)) rfl rfl (c':=c+2) rfl ?_
     | refine a0u 48 (a0a ei_24.h (by first | exact Nat.le_of_ble_eq_true rfl | omega | (dsimp only;omega) | (simp <;> omega)) rfl (by first | exact Nat.le_of_ble_eq_true rfl | omega | (dsimp only;omega) | (simp <;> omega)) (by first | exact Nat.le_of_ble_eq_true rfl | omega | (dsimp only;omega) | (simp <;> omega)) (a0U rfl (by first | exact Nat.le_of_ble_eq_true rfl | omega | (dsimp only;omega) | (simp <;> omega))) (by first | exact Nat.le_of_ble_eq_true rfl | omega | (dsimp only;omega) | (simp <;> omega)) rfl) rfl rfl (a0i rfl (a0P rfl)) rfl rfl (c':=c+2) rfl ?_
     | refine a0u 48 (a0a ei_24.h (by first | exact Nat.le_of_ble_eq_true rfl | omega | (dsimp only;omega) | (simp <;> omega)) rfl (by first | exact Nat.le_of_ble_eq_true rfl | omega | (dsimp only;omega) | (simp <;> omega)) (by first | exact Nat.le_of_ble_eq_true rfl | omega | (dsimp only;omega) | (simp <;> omega)) (a0O rfl) (by first | exact Nat.le_of_ble_eq_true rfl | omega | (dsimp only;omega) | (simp <;> omega)) rfl) rfl rfl (a0i rfl a0g) rfl rfl (c':=c+2) rfl ?_
     | refine a0u 48 (a0a ei_24.h (by first | exact Nat.le_of_ble_eq_true rfl | omega | (dsimp only;omega) | (simp <;> omega)) rfl (by first | exact Nat.le_of_ble_eq_true rfl | omega | (dsimp only;omega) | (simp <;> omega)) (by first | exact Nat.le_of_ble_eq_true rfl | omega | (dsimp only;omega) | (simp <;> omega)) (a0A 1 (fun _ _=>default) rfl) (by first | exact Nat.le_of_ble_eq_true rfl | omega | (dsimp only;omega) | (simp <;> omega)) rfl) rfl rfl (a0i rfl a0g) rfl rfl (c':=c+2) rfl ?_
     refine ru 10 ?_
     refine clx (c8s ((gD wd on β p.first S a) s).list p.ends.list (a8n _) (a8n _)) ?_
     refine ru 2 ?_
     refine a2n 58 (a0b (id:=58) (hs:=[_]) ei_26.h omx rfl omx ⟨rfl,rfl,rfl,rfl,trivial⟩) rfl rfl a0g rfl rfl (k':=9) rfl ?_
     first
     | refine a2n 59 (a0a ei_26.h (by first | exact Nat.le_of_ble_eq_true rfl | omega | (dsimp only;omega) | (simp <;> omega)) rfl (by first | exact Nat.le_of_ble_eq_true rfl | omega | (dsimp only;omega) | (simp <;> omega)) (by first | exact Nat.le_of_ble_eq_true rfl | omega | (dsimp only;omega) | (simp <;> omega)) (a0x rfl (by first | exact Nat.le_of_ble_eq_true rfl | omega | (dsimp only;omega) | (simp <;> omega))) (by first | exact Nat.le_of_ble_eq_true rfl | omega | (dsimp only;omega) | (simp <;> omega)) rfl) rfl rfl (a0i rfl (a0P rfl)) rfl rfl (k':=10) rfl ?_
     | refine a2n 59 (a0a ei_26.h (by first | exact Nat.le_of_ble_eq_true rfl | omega | (dsimp only;omega) | (simp <;> omega)) rfl (by first | exact Nat.le_of_ble_eq_true rfl | omega | (dsimp only;omega) | (simp <;> omega)) (by first | exact Nat.le_of_ble_eq_true rfl | omega | (dsimp only;omega) | (simp <;> omega)) (a0U rfl (by first | exact Nat.le_of_ble_eq_true rfl | omega | (dsimp only;omega) | (simp <;> omega))) (by first | exact Nat.le_of_ble_eq_true rfl | omega | (dsimp only;omega) | (simp <;> omega)) rfl) rfl rfl (a0i rfl (a0P rfl)) rfl rfl (k':=10) rfl ?_
     | refine a2n 59 (a0a ei_26.h (by first | exact Nat.le_of_ble_eq_true rfl | omega | (dsimp only;omega) | (simp <;> omega)) rfl (by first | exact Nat.le_of_ble_eq_true rfl | omega | (dsimp only;omega) | (simp <;> omega)) (by first | exact Nat.le_of_ble_eq_true rfl | omega | (dsimp only;omega) | (simp <;> omega)) (a0O rfl) (by first | exact Nat.le_of_ble_eq_true rfl | omega | (dsimp only;omega) | (simp <;> omega)) rfl) rfl rfl (a0i rfl a0g) rfl rfl (k':=10) rfl ?_
     | refine a2n 59 (a0a ei_26.h (by first | exact Nat.le_of_ble_eq_true rfl | omega | (dsimp only;omega) | (simp <;> omega)) rfl (by first | exact Nat.le_of_ble_eq_true rfl | omega | (dsimp only;omega) | (simp <;> omega)) (by first | exact Nat.le_of_ble_eq_true rfl | omega | (dsimp only;omega) | (simp <;> omega)) (a0A 1 (fun _ _=>default) rfl) (by first | exact Nat.le_of_ble_eq_true rfl | omega | (dsimp only;omega) | (simp <;> omega)) rfl) rfl rfl (a0i rfl a0g) rfl rfl (k':=10) rfl ?_
     refine ru 17 ?_
     exact hL2 ((s+1,c+1,c+3+9)) _ _ (by (try dsimp only);omega) (by (try dsimp only);omega) (a0c rfl (Nat.le_refl _) (tsr rfl (tsr rfl (tsr rfl (tsr rfl (tsr rfl (tsr rfl (tsr rfl (a0t.cons rfl (a0F om) a0t.nil)))))))) (a0e.cons rfl (by (try dsimp only);rw [A1];exact b8C (a3l (by simp)) (.refl _) (a3l (by simp))) (a0e.cons rfl (by (try dsimp only);rw [A1];exact a0G (enc:=fun b _=>a0n (Bag.list b)) (d:=Bag.zero) rfl (fun _ _ _ _=>.refl _) (fun _ _=>.refl _)) (hsr rfl (a0e.cons rfl (by (try dsimp only);rw [A1,c2s hone];exact a0G (enc:=fun b _=>boolV b) (d:=false) hAl.symm (fun _ _ _ _=>.refl _) (fun j hj=>by show Sb (boolV (decide (((b1C ((gD wd on β p.first S a) s).list p.ends.list 256).length:Int) > 0))) (boolV (decide _));rw [c7A _ _ c0D hpk.2];exact .refl _)) (hsr rfl (hsr rfl (a0e.cons rfl (by (try dsimp only);rw [A2];exact b4h hl.2.2 hs32 om) hsa))))))))
    have hP:a4a Bag.zero (a1z Bag.zero (gD wd on β p.first S a) S s).1 ((gD wd on β p.first S a) s)=((a1z Bag.zero (gD wd on β p.first S a) S s).1,rfV (a1z Bag.zero (gD wd on β p.first S a) S s).1 ((gD wd on β p.first S a) s)):=(by rw [b8Z hne,if_neg (of_decide_eq_false hr3)]);obtain ⟨A1,A2⟩:=b4i hP
    refine ru 15 ?_
    exact hL2 ((s+1,q2,q4)) _ _ (by (try dsimp only);omega) (by (try dsimp only);omega) (a0c rfl (Nat.le_refl _) (tsr rfl (tsr rfl (tsr rfl (tsr rfl (tsr rfl (tsr rfl (tsr rfl (a0t.cons rfl (a0F om) a0t.nil)))))))) (a0e.cons rfl (by (try dsimp only);rw [A1];exact .refl _) (a0e.cons rfl (by (try dsimp only);rw [A1];exact .refl _) (hsr rfl (a0e.cons rfl (by (try dsimp only);rw [A1];exact .refl _) (hsr rfl (hsr rfl (a0e.cons rfl (by (try dsimp only);rw [A2];exact b4h hl.2.2 hs32 om) hsa))))))))
   have h9:=of_decide_eq_false hr2;have hz:(gD wd on β p.first S a) s=Bag.zero:=(a8w c0D).1 (List.eq_nil_of_length_eq_zero om);have hP:a4a Bag.zero (a1z Bag.zero (gD wd on β p.first S a) S s).1 ((gD wd on β p.first S a) s)=((a1z Bag.zero (gD wd on β p.first S a) S s).1,-1):=(by unfold a4a;rw [if_pos hz]);obtain ⟨A1,A2⟩:=b4i hP
   refine ru 15 ?_
   exact hL2 ((s+1,q2,q4)) _ _ (by (try dsimp only);omega) (by (try dsimp only);omega) (a0c rfl (Nat.le_refl _) (tsr rfl (tsr rfl (tsr rfl (tsr rfl (tsr rfl (tsr rfl (tsr rfl (a0t.cons rfl (a0F om) a0t.nil)))))))) (a0e.cons rfl (by (try dsimp only);rw [A1];exact .refl _) (a0e.cons rfl (by (try dsimp only);rw [A1];exact .refl _) (hsr rfl (a0e.cons rfl (by (try dsimp only);rw [A1];exact .refl _) (hsr rfl (hsr rfl (a0e.cons rfl (by (try dsimp only);rw [A2];exact b4h hl.2.2 hs32 om) hsa))))))))
  obtain rfl:s=32:=om
  refine ru 2 ?_
  refine a0d ?_
  refine ru 7 ?_
  refine a0u 67 (a0b (id:=67) (hs:=[_]) ei_25.h omx rfl omx ⟨rfl,rfl,rfl,rfl,trivial⟩) rfl rfl a0g rfl rfl (c':=c+1) rfl ?_
  first
  | refine a0u 68 (a0a ei_25.h (by first | exact Nat.le_of_ble_eq_true rfl | omega | (dsimp only;omega) | (simp <;> omega)) rfl (by first | exact Nat.le_of_ble_eq_true rfl | omega | (dsimp only;omega) | (simp <;> omega)) (by first | exact Nat.le_of_ble_eq_true rfl | omega | (dsimp only;omega) | (simp <;> omega)) (a0x rfl (by first | exact Nat.le_of_ble_eq_true rfl | omega | (dsimp only;omega) | (simp <;> omega))) (by first | exact Nat.le_of_ble_eq_true rfl | omega | (dsimp only;omega) | (simp <;> omega)) rfl) rfl rfl (a0i rfl (a0P rfl)) rfl rfl (c':=c+2) rfl ?_
  | refine a0u 68 (a0a ei_25.h (by first | exact Nat.le_of_ble_eq_true rfl | omega | (dsimp only;omega) | (simp <;> omega)) rfl (by first | exact Nat.le_of_ble_eq_true rfl | omega | (dsimp only;omega) | (simp <;> omega)) (by first | exact Nat.le_of_ble_eq_true rfl | omega | (dsimp only;omega) | (simp <;> omega)) (a0U rfl (by first | exact Nat.le_of_ble_eq_true rfl | omega | (dsimp only;omega) | (simp <;> omega))) (by first | exact Nat.le_of_ble_eq_true rfl | omega | (dsimp only;omega) | (simp <;> omega)) rfl) rfl rfl (a0i rfl (a0P rfl)) rfl rfl (c':=c+2) rfl ?_
  | refine a0u 68 (a0a ei_25.h (by first | exact Nat.le_of_ble_eq_true rfl | omega | (dsimp only;omega) | (simp <;> omega)) rfl (by first | exact Nat.le_of_ble_eq_true rfl | omega | (dsimp only;omega) | (simp <;> omega)) (by first | exact Nat.le_of_ble_eq_true rfl | omega | (dsimp only;omega) | (simp <;> omega)) (a0O rfl) (by first | exact Nat.le_of_ble_eq_true rfl | omega | (dsimp only;omega) | (simp <;> omega)) rfl) rfl rfl (a0i rfl a0g) rfl rfl (c':=c+2) rfl ?_
  | refine a0u 68 (a0a ei_25.h (by first | exact Nat.le_of_ble_eq_true rfl | omega | (dsimp only;omega) | (simp <;> omega)) rfl (by first | exact Nat.le_of_ble_eq_true rfl | omega | (dsimp only;omega) | (simp <;> omega)) (by first | exact Nat.le_of_ble_eq_true rfl | omega | (dsimp only;omega) | (simp <;> omega)) (a0A 32 (fun _ _=>default) rfl) (by first | exact Nat.le_of_ble_eq_true rfl | omega | (dsimp only;omega) | (simp <;> omega)) rfl) rfl rfl (a0i rfl a0g) rfl rfl (c':=c+2) rfl ?_
  refine ru 12 ?_
  refine wdc (fun hr4 hc4=>?_) (fun hr4 hc4=>?_)
  ·skip
   have h9:=of_decide_eq_true hr4
   refine ru 10 ?_
   refine a0o ?_
   refine ru 2 ?_
   refine a9u ?_
   refine rt2 ?_
   rw [hT,hst,if_pos om];exact a5K (.agg 3 _ _ fun i hi=>by match i,hi with | 0,_=>exact .imm _ | 1,_=>exact .imm _ | 2,_=>exact .imm _) (.imm _)
  have h9:=of_decide_eq_false hr4
  refine ru 8 ?_
  exact hL1 ((a+1,q2,c+1,q4,(a1z Bag.zero (gD wd on β p.first S a) S 32).1,R++[(a1z Bag.zero (gD wd on β p.first S a) S 32).2])) _ _ (by (try dsimp only);exact ⟨by omega,by simp [hRa],by omega,hok1,by rw [hT,hst,if_neg om]⟩) (by (try dsimp only);omega) (a0c rfl (Nat.le_refl _) (tsr rfl (tsr rfl (tsr rfl (tsr rfl (a0t.cons rfl (a0F om) a0t.nil))))) (a0e.cons rfl (b8C (.refl _) (a3l (by simp)) (.refl _)) (hsr rfl (a0e.cons rfl (a0G (enc:=fun (r:List Int) j=>intV (r.getD j 0)) (d:=[]) rfl (fun _ _ _ _=>.refl _) (fun _ _=>.refl _)) hsa))))
 have haE:a=S.length:=om
 refine ru 2 ?_
 refine a0d ?_
 refine ru 10 ?_
 refine a9u ?_
 refine a9k rfl (a0J rfl rfl ty_28.h rqc rfl rfl) (a0h rfl) [(9102,_),(9103,_),(9104,_)] rfl (a0i rfl (a0i rfl (a0i rfl a0g))) ?_
 rw [hT,b8f om];exact a5K (.agg 3 _ _ (c9n rfl rfl (.head _) (.tail _ (.head _)) (.tail _ (.tail _ (.head _))) (a6M _ _ _))) (.imm _)
set_option maxHeartbeats 1000000
theorem c1B (s:List UInt8) (hs:s≠[]):HPure Tryz.prog 26 [strV s] (bagH (a2Q [(s.length:Int),bz s 0 - 90])):=by
 have hl:0 < s.length:=List.length_pos_iff.2 hs
 have hb8:(s.getD 0 0).toNat < 256:=UInt8.toNat_lt _
 have hb9:(s[0]?.getD 0).toNat < 256:=UInt8.toNat_lt _
 refine a0k Tryz.func26 rfl kr _ _ _ rfl 11 rfl rfl (fun w F=>?_)
 refine ru 13 ?_
 refine a0u 9 (a0b (id:=9) (hs:=[_,_]) ei_49.h omx rfl omx ⟨rfl,rfl,rfl,rfl,⟨rfl,rfl,rfl,rfl,trivial⟩⟩) rfl rfl a0g rfl rfl (c':=2) rfl ?_
 refine hm_ 10 (b1M (xs:=[_]) [(9,_)] (c9V [(s.length:Int),bz s 0 - 90] (by simp)) ⟨rfl,trivial⟩ ⟨(show Fz _ _ (a0n [(s.length:Int),bz s 0 - 90]) from a2x (l:=[(s.length:Int),bz s 0 - 90]) (enc:=fun x _=>intV x) (d:=0) (List.mem_cons_self ..) rfl rfl (Nat.le_refl _) (fun i j hi hj=>by match i,hi,j,hj with | 0,_,0,_=>exact .imm _ | 1,_,0,_=>exact b3H (by show _=bz s 0 - 90;rw [a3F hl];rfl))),trivial⟩ rfl) rfl rfl (a0i rfl a0g) rfl rfl (c':=3) rfl ?_
 refine ru 4 ?_
 refine rt1 ?_
 exact a2r (by exact j4 rfl rfl rfl rfl)
def c8V:List UInt8:=[97,42,32,98]
def c6O:List Sg:=[⟨1,0,0,0,[97]⟩,⟨5,1,0,-1,[]⟩,⟨1,3,0,0,[98]⟩]
def b3u:T:=.many 2 [.times 0 (-1) (.name [97]),.name [98]]
theorem b9U:(match lexV c8V with | .ok l=>decide (l=c6O) | .error _=>false)=true:=by decide +kernel
theorem a6H:lexV c8V=.ok c6O:=by
 have:=b9U
 split at this
 ·rename_i l hl;rw [hl,of_decide_eq_true this]
 ·cases this
theorem b9u:b3u.ok=true:=by decide +kernel
theorem b6t:Seg c6O 3 0 c6O.length b3u:=by
 refine .choice1 _ _ _ (.row 0 3 [.times 0 (-1) (.name [97]),.name [98]] (fun i=>match i with | 0=>0 | 1=>2 | _=>3) (by decide) rfl rfl (fun i hi=>?_))
 match i,hi with
 | 0,_=>exact .times 0 1 (.name [97]) (.name 0 (by decide)) (by decide)
 | 1,_=>exact .item 2 3 (.name [98]) (.name 2 (by decide)) (by decide)
theorem b8y {r:List Pt×Int×Int} (h:ParseIs c8V r):r=(T.flat 0 b3u,0,0):=by
 have hne:c6O≠[]:=by decide
 have hc:chk c6O 0 0 true true=(-1,false):=b1T b6t
 cases h with
 | err e hv=>rw [a6H] at hv;cases hv
 | none hv=>rw [a6H] at hv;injection hv with hv;exact absurd hv hne
 | odd l q hv _ _ hq=>rw [a6H] at hv;injection hv with hv;subst hv;rw [hc] at hq;injection hq with hq _;exact absurd hq (by omega)
 | end_ l hv _ hq=>rw [a6H] at hv;injection hv with hv;subst hv;rw [hc] at hq;injection hq with _ hq;cases hq
 | ok l t hv hs=>rw [a6H] at hv;injection hv with hv;subst hv;rw [c0e hs b6t]
def c0W (s:List UInt8):Bag:=a2Q [(s.length:Int),bz s 0 - 90]
theorem c5y:MeanOk 26 0 (fun _=>default) [] c0W :=
 ⟨rfl,fun i hi=>absurd hi (Nat.not_lt_zero _),trivial,fun sh=>.fn _ _ _ _ (fun i hi=>absurd hi (Nat.not_lt_zero _)),fun s hs=>c1B s (c2w hs),fun s=>(a1N _).1⟩
theorem c2c:noneV c0W (T.flat 0 b3u)=false:=by decide +kernel
theorem c5X:b3u.w=2:=by decide +kernel
@[reducible] def c9t:Option (List Bag×List (List Int)):=tabV (0+b3u.w) (lay c0W b3u 0).on (links (fun _=>Bag.zero) (lay c0W b3u 0).lk) (lay c0W b3u 0).pc
theorem c1w:(match c9t with | some (S,R)=>decide (2 < R.length)&&decide (0 < nxT R 0 7) | none=>false)=true:=by decide +kernel
theorem c6s:∃ S R,c9t=some (S,R)∧2 < R.length∧0 < nxT R 0 7:=by
 have:=c1w
 split at this
 ·rename_i S R h;rw [Bool.and_eq_true,decide_eq_true_eq,decide_eq_true_eq] at this;exact ⟨S,R,h,this.1,this.2⟩
 ·cases this
theorem d0p:HPure Tryz.prog 10 [treeNet c0W b3u] (c9A (lay c0W b3u 0).pc c9t):=by
 have hm:∀ s,(c0W s).ok:=fun s=>(a1N _).1
 have hly:=a3T hm b3u 0 (by rw [c5X];decide)
 refine b2a (0+b3u.w) (by rw [c5X];decide) _ (fun i=>?_) _ (a1j hly.lk (fun _=>Bag.zero_ok)) _ hly.pc
 show ((lay c0W b3u 0).on.getD i Bag.zero).ok
 by_cases hi:i < (lay c0W b3u 0).on.length
 ·rw [List.getD_eq_getElem?_getD,List.getElem?_eq_getElem hi];exact hly.on _ (List.getElem_mem hi)
 ·rw [List.getD_eq_getElem?_getD,List.getElem?_eq_none (by omega)];exact Bag.zero_ok
theorem a7s:HPure Tryz.prog 7 [] (boolV true):=by
 have hw:=c5X
 have hB:=b5j b9u (by decide +kernel)
 have hn:=d0p
 obtain ⟨S,R,e8,h2,h7⟩:=c6s
 rw [e8] at hn
 refine a0k Tryz.func7 rfl kr _ _ _ rfl 44 rfl rfl (fun w F=>?_)
 refine ru 7 ?_
 refine a0s 11 (xs:=[_]) (pre:=[]) (b4g _ c8V (by decide)) ⟨rfl,trivial⟩ a0g rfl rfl (fun r c1 hr=>?_)
 (try dsimp only)
 refine ru 10 ?_
 obtain rfl:=b8y hr
 refine ru 2 ?_
 refine cll (c4U c5y (T.flat 0 b3u) hB _ (.fine b3u b9u rfl c2c (by rw [hw];decide))) ?_
 refine ru 10 ?_
 refine cll (hn) ?_
 refine ru 10 ?_
 refine cll (c4k R _ 0 7) ?_
 refine ru 13 ?_
 first
 | refine stg 32 (fun hb=>a0f (xs:=[_]) (b5a R _) ⟨rfl,trivial⟩ ⟨(Fz.eq rfl),trivial⟩) rfl rfl rfl rfl rfl ?_
 | refine sth 32 (fun hb=>a0f (xs:=[_]) (b5a R _) ⟨rfl,trivial⟩ ⟨(Fz.eq rfl),trivial⟩) rfl rfl rfl rfl rfl ?_
 refine ru 13 ?_
 refine rt1 ?_
 exact a2c (by rw [if_neg om,bne_iff_ne.2 (show nxT R 0 7≠-1 by omega),decide_eq_true (show (R.length:Int) > 2 by omega),decide_eq_true (show nxT R 0 7 > 0 by omega)];rfl)
@[reducible] def c7W:HV:=.agg 3 fun _=>.imm (.slice none 0 0)
@[reducible] def TabP (s:List UInt8) (l:List Mn) (y:HV):Prop:=HPure Tryz.prog 6 [strV s,mnsV l] y
structure TabOk (s:List UInt8) (l:List Mn) (wd:Nat) (on:List Bag) (β:Nat→Bag) (p:Pc) (e:List Pt) (S:List Bag) (R:List (List Int)):Prop where
 net:NetOk s l wd on β p e
 is:tabV wd on β p=some (S,R)
 tab:TabP s l (t4 (tabP R (accS p.empty p.ends S)) (tabD S R (accS p.empty p.ends S)) (intV 0) (boolV true))
section
variable {s:List UInt8} {l:List Mn} {wd:Nat} {on:List Bag} {β:Nat→Bag} {p:Pc} {e:List Pt}
theorem NetOk.new (V:NetOk s l wd on β p e):HPure Tryz.prog 10 [netP wd on β p] (c9A p (tabV wd on β p)):=b2a wd (by have:=V.w60;omega) on V.onk β V.bek p V.pck
theorem NetOk.ref (V:NetOk s l wd on β p e):HPure Tryz.prog 22 [ndR wd on β p] (d0a p (tabV wd on β p)):=c1v wd on β p (by have:=V.w60;omega) V.inF V.inβ V.pck
theorem NetOk.many (V:NetOk s l wd on β p e):∃ k:Int,0 < e.length→HPure Tryz.prog 21 [ptsV e,intV ((e.length:Int) - 1)] (intV k):=by
 rcases V.is with ⟨rfl,_⟩ | ⟨t,hok,rfl,_⟩
 ·exact ⟨0,fun h=>absurd h (Nat.lt_irrefl _)⟩
 ·refine ⟨a3J t.w,fun h=>?_⟩
  have:=a8s (T.flat 0 t) V.ptb.1 t 0 hok ⟨[],[],by simp,rfl⟩
  have hsz:(T.flat 0 t).length=t.size:=T.flat_len 0 t
  have hps:=t.size_pos
  have e:((T.flat 0 t).length:Int) - 1=((0+t.size - 1:Nat):Int):=by omega
  rw [e];exact this
end
theorem b5p {sh:List (Nat×HObj)} (S:List Bag) (R:List (List Int)) (A:List Bool) (i:Nat):Fz sh (tdF S R A i) (tdF S R A i):=by
 unfold tdF
 split
 ·exact .sl _ _ _ _ fun _ _ _ _=>.sl _ _ _ _ fun _ _ _ _=>.imm _
 ·exact .sl _ _ _ _ fun _ _ _ _=>.imm _
 ·exact .sl _ _ _ _ fun _ _ _ _=>.imm _
theorem b1n {sh:List (Nat×HObj)} (S:List Bag) (R:List (List Int)) (A:List Bool):Fz sh (tabD S R A) (tabD S R A):=.agg 3 _ _ fun i _=>b5p S R A i
def d0x (p:Pc):Option (List Bag×List (List Int))→HV
 | some (S,R)=>t4 (tabP R (accS p.empty p.ends S)) (tabD S R (accS p.empty p.ends S)) (intV 0) (boolV true)
 | none=>t4 b3z c7W (intV 7) (boolV false)
theorem b9J (s:List UInt8) (l:List Mn) (y:HV) (z:Int) (b:Bool) (hx:NetP s l (t4 b3z y (intV z) (boolV b))) (hy:∀ sh,Fz sh y y) (n:Nat) (f:Nat→Nat→HV) (hyf:y=.sl 5 n f∨y=a1g) (hb:b=false∨z≠0):TabP s l (t4 b3z c7W (intV z) (boolV false)):=by
 refine a0k Tryz.func6 rfl kr _ _ _ rfl 71 rfl rfl (fun w F=>?_)
 refine ru 12 ?_
 refine cll (hx) ?_
 refine ru 13 ?_
 rcases hyf with rfl | rfl
 ·refine ru 13 ?_
  first
  | refine stg 34 (fun hb=>a2I (T:=56) rfl (a0L el_56.h).1 rfl) rfl rfl rfl rfl rfl ?_
  | refine sth 34 (fun hb=>a2I (T:=56) rfl (a0L el_56.h).1 rfl) rfl rfl rfl rfl rfl ?_
  | refine stg 34 (fun hb=>a3s (T:=56) rfl (a0L el_56.h).1 rfl) rfl rfl rfl rfl rfl ?_
  | refine sth 34 (fun hb=>a3s (T:=56) rfl (a0L el_56.h).1 rfl) rfl rfl rfl rfl rfl ?_
  | refine stg 34 (fun hb=>a2z (T:=56) rfl (a0L el_56.h).1 rfl) rfl rfl rfl rfl rfl ?_
  | refine sth 34 (fun hb=>a2z (T:=56) rfl (a0L el_56.h).1 rfl) rfl rfl rfl rfl rfl ?_
  refine ru 4 ?_
  first
  | refine stg 38 (fun hb=>a2I (T:=56) rfl (a0L el_56.h).1 rfl) rfl rfl rfl rfl rfl ?_
  | refine a4P 41 14 38 34 false true _ _ (fun hb hb2=>a2I (T:=56) rfl (a0L el_56.h).1 rfl) rfl rfl rfl rfl rfl a0g rfl rfl rfl ?_
  | refine sth 38 (fun hb=>a2I (T:=56) rfl (a0L el_56.h).1 rfl) rfl rfl rfl rfl rfl ?_
  | refine stg 38 (fun hb=>a3s (T:=56) rfl (a0L el_56.h).1 rfl) rfl rfl rfl rfl rfl ?_
  | refine a4P 41 14 38 34 false true _ _ (fun hb hb2=>a3s (T:=56) rfl (a0L el_56.h).1 rfl) rfl rfl rfl rfl rfl a0g rfl rfl rfl ?_
  | refine sth 38 (fun hb=>a3s (T:=56) rfl (a0L el_56.h).1 rfl) rfl rfl rfl rfl rfl ?_
  | refine stg 38 (fun hb=>a2z (T:=56) rfl (a0L el_56.h).1 rfl) rfl rfl rfl rfl rfl ?_
  | refine a4P 41 14 38 34 false true _ _ (fun hb hb2=>a2z (T:=56) rfl (a0L el_56.h).1 rfl) rfl rfl rfl rfl rfl a0g rfl rfl rfl ?_
  | refine sth 38 (fun hb=>a2z (T:=56) rfl (a0L el_56.h).1 rfl) rfl rfl rfl rfl rfl ?_
  first
  | refine stg 38 (fun hb=>a4I rfl rfl rfl (by first | exact Nat.le_of_ble_eq_true rfl | (simp at hb;first | omega | (dsimp only;omega) | (simp <;> omega)) | omega | (dsimp only;omega)) (by first | exact Nat.le_of_ble_eq_true rfl | (simp at hb;first | omega | (dsimp only;omega) | (simp <;> omega)) | omega | (dsimp only;omega))) rfl rfl rfl rfl rfl ?_
  | refine a4P 42 14 38 34 false true _ _ (fun hb hb2=>a4I rfl rfl rfl (by first | exact Nat.le_of_ble_eq_true rfl | (simp at hb;omega) | (simp at hb2;omega) | (simp at hb hb2;first | omega | (dsimp only;omega) | (simp <;> omega)) | omega | (dsimp only;omega)) (by first | exact Nat.le_of_ble_eq_true rfl | (simp at hb;omega) | (simp at hb2;omega) | (simp at hb hb2;first | omega | (dsimp only;omega) | (simp <;> omega)) | omega | (dsimp only;omega))) rfl rfl rfl rfl rfl a0g rfl rfl rfl ?_
  | refine sth 38 (fun hb=>a4I rfl rfl rfl (by first | exact Nat.le_of_ble_eq_true rfl | (simp at hb;first | omega | (dsimp only;omega) | (simp <;> omega)) | omega | (dsimp only;omega)) (by first | exact Nat.le_of_ble_eq_true rfl | (simp at hb;first | omega | (dsimp only;omega) | (simp <;> omega)) | omega | (dsimp only;omega))) rfl rfl rfl rfl rfl ?_
  | refine stg 38 (fun hb=>a5e rfl rfl) rfl rfl rfl rfl rfl ?_
  | refine a4P 42 14 38 34 false true _ _ (fun hb hb2=>a5e rfl rfl) rfl rfl rfl rfl rfl a0g rfl rfl rfl ?_
  | refine sth 38 (fun hb=>a5e rfl rfl) rfl rfl rfl rfl rfl ?_
  refine a4P 43 14 38 34 false true _ _ (v:=intV 0) (fun h1 h2=>absurd h2 (by rcases hb with h | h <;> simp [h])) rfl rfl rfl rfl rfl a0g rfl rfl rfl ?_
  refine ru 5 ?_
  refine wdc (fun hr0 hc0=>?_) (fun hr0 hc0=>?_)
  ·refine ru 12 ?_
   refine a3Y rfl (a0h rfl) (a0J rfl rfl ty_28.h rqc rfl rfl) (a0h rfl) (a0h rfl) [] rfl a0g ?_
   exact a9Q (.imm _) (.agg 3 _ _ fun i hi=>by match i,hi with | 0,_=>exact .imm _ | 1,_=>exact .imm _ | 2,_=>exact .imm _) (.imm _) (.imm _)
  exfalso;rcases hb with h | h <;> simp [h] at hr0
 ·refine ru 20 ?_
  refine a4P 43 14 38 34 false true _ _ (v:=intV 0) (fun h1 h2=>absurd h2 (by rcases hb with h | h <;> simp [h])) rfl rfl rfl rfl rfl a0g rfl rfl rfl ?_
  refine ru 5 ?_
  refine wdc (fun hr0 hc0=>?_) (fun hr0 hc0=>?_)
  ·refine ru 12 ?_
   refine a3Y rfl (a0h rfl) (a0J rfl rfl ty_28.h rqc rfl rfl) (a0h rfl) (a0h rfl) [] rfl a0g ?_
   exact a9Q (.imm _) (.agg 3 _ _ fun i hi=>by match i,hi with | 0,_=>exact .imm _ | 1,_=>exact .imm _ | 2,_=>exact .imm _) (.imm _) (.imm _)
  exfalso;rcases hb with h | h <;> simp [h] at hr0
section
variable {s:List UInt8} {l:List Mn} {wd:Nat} {on:List Bag} {β:Nat→Bag} {p:Pc} {e:List Pt}
theorem NetOk.tab (V:NetOk s l wd on β p e):∃ k:Int,TabP s l (if 0 < e.length∧25 < k then t4 b3z c7W (intV 0) (boolV false) else d0x p (tabV wd on β p)):=by
 have hnew:=V.new
 have href:=V.ref
 obtain ⟨k,hM⟩:=V.many
 have hel:=V.eln
 refine ⟨k,?_⟩
 generalize tabV wd on β p=o at hnew href ⊢
 refine a0k Tryz.func6 rfl kr _ _ _ rfl 71 rfl rfl (fun w F=>?_)
 refine ru 12 ?_
 refine cll (V.net) ?_
 refine ru 32 ?_
 first
 | refine stg 38 (fun hb=>a4I rfl rfl rfl (by first | exact Nat.le_of_ble_eq_true rfl | (simp at hb;first | omega | (dsimp only;omega) | (simp <;> omega)) | omega | (dsimp only;omega)) (by first | exact Nat.le_of_ble_eq_true rfl | (simp at hb;first | omega | (dsimp only;omega) | (simp <;> omega)) | omega | (dsimp only;omega))) rfl rfl rfl rfl rfl ?_
 | refine a4P 42 14 38 34 false true _ _ (fun hb hb2=>a4I rfl rfl rfl (by first | exact Nat.le_of_ble_eq_true rfl | (simp at hb;omega) | (simp at hb2;omega) | (simp at hb hb2;first | omega | (dsimp only;omega) | (simp <;> omega)) | omega | (dsimp only;omega)) (by first | exact Nat.le_of_ble_eq_true rfl | (simp at hb;omega) | (simp at hb2;omega) | (simp at hb hb2;first | omega | (dsimp only;omega) | (simp <;> omega)) | omega | (dsimp only;omega))) rfl rfl rfl rfl rfl a0g rfl rfl rfl ?_
 | refine sth 38 (fun hb=>a4I rfl rfl rfl (by first | exact Nat.le_of_ble_eq_true rfl | (simp at hb;first | omega | (dsimp only;omega) | (simp <;> omega)) | omega | (dsimp only;omega)) (by first | exact Nat.le_of_ble_eq_true rfl | (simp at hb;first | omega | (dsimp only;omega) | (simp <;> omega)) | omega | (dsimp only;omega))) rfl rfl rfl rfl rfl ?_
 | refine stg 38 (fun hb=>a5e rfl rfl) rfl rfl rfl rfl rfl ?_
 | refine a4P 42 14 38 34 false true _ _ (fun hb hb2=>a5e rfl rfl) rfl rfl rfl rfl rfl a0g rfl rfl rfl ?_
 | refine sth 38 (fun hb=>a5e rfl rfl) rfl rfl rfl rfl rfl ?_
 first
 | refine stg 38 (fun hb=>a0f (xs:=[_,_]) (hM (by simp at hb;omega)) ⟨rfl,⟨rfl,trivial⟩⟩ ⟨(Fz.eq rfl),⟨(Fz.eq rfl),trivial⟩⟩) rfl rfl rfl rfl rfl ?_
 | refine a4P 43 14 38 34 false true _ _ (fun hb hb2=>a0f (xs:=[_,_]) (hM (by simp at hb;omega)) ⟨rfl,⟨rfl,trivial⟩⟩ ⟨(Fz.eq rfl),⟨(Fz.eq rfl),trivial⟩⟩) rfl rfl rfl rfl rfl a0g rfl rfl rfl ?_
 | refine sth 38 (fun hb=>a0f (xs:=[_,_]) (hM (by simp at hb;omega)) ⟨rfl,⟨rfl,trivial⟩⟩ ⟨(Fz.eq rfl),⟨(Fz.eq rfl),trivial⟩⟩) rfl rfl rfl rfl rfl ?_
 refine ru 5 ?_
 refine wdc (fun hr0 hc0=>?_) (fun hr0 hc0=>?_)
 ·refine ru 12 ?_
  refine a3Y rfl (a0h rfl) (a0J rfl rfl ty_28.h rqc rfl rfl) (a0h rfl) (a0h rfl) [] rfl a0g ?_
  rw [if_pos (by simp at hr0;omega)];exact a9Q (.imm _) (.agg 3 _ _ fun i hi=>by match i,hi with | 0,_=>exact .imm _ | 1,_=>exact .imm _ | 2,_=>exact .imm _) (.imm _) (.imm _)
 rw [if_neg (by simp at hr0;omega)]
 refine ru 3 ?_
 rcases o with _ | ⟨S,R⟩
 ·refine ru 2 ?_
  refine s0 (HOp.val (v':=t2 b3z (intV 7)) (a0f (xs:=[_]) (hnew) ⟨rfl,trivial⟩ ⟨(Fz.eq rfl),trivial⟩) (rfl)) ?_
  refine ru 11 ?_
  refine cll (V.doc) ?_
  refine s0 (HOp.val (v':=t2 c7W (boolV false)) (a0f (xs:=[_]) (href) ⟨rfl,trivial⟩ ⟨(Fz.eq rfl),trivial⟩) (rfl)) ?_
  refine ru 15 ?_
  refine wdc (fun hr1 hc1=>?_) (fun hr1 hc1=>?_)
  ·refine ru 15 ?_
   refine a3Y rfl (a0h rfl) (a0J rfl rfl ty_28.h rqc rfl rfl) (a0h rfl) (a0h rfl) [] rfl a0g ?_
   exact a9Q (.imm _) (.agg 3 _ _ fun i hi=>by match i,hi with | 0,_=>exact .imm _ | 1,_=>exact .imm _ | 2,_=>exact .imm _) (.imm _) (a2c (by decide))
  exfalso;simp at hr1
 ·refine ru 2 ?_
  refine s0 (HOp.val (v':=t2 (tabP R (accS p.empty p.ends S)) (intV 0)) (a0f (xs:=[_]) (hnew) ⟨rfl,trivial⟩ ⟨(Fz.eq rfl),trivial⟩) (rfl)) ?_
  refine ru 11 ?_
  refine cll (V.doc) ?_
  refine s0 (HOp.val (v':=t2 (tabD S R (accS p.empty p.ends S)) (boolV true)) (a0f (xs:=[_]) (href) ⟨rfl,trivial⟩ ⟨(Fz.eq rfl),trivial⟩) (rfl)) ?_
  refine ru 15 ?_
  refine wdc (fun hr1 hc1=>?_) (fun hr1 hc1=>?_)
  ·skip
   exfalso;simp at hr1
  refine ru 14 ?_
  refine a3Y rfl (a0h rfl) (a0J rfl rfl ty_28.h rqc rfl rfl) (a0h rfl) (a0h rfl) [] rfl a0g ?_
  exact a9Q (show Fz _ (tabP R (accS p.empty p.ends S)) (tabP R (accS p.empty p.ends S)) from Frz.fz) (.agg 3 _ _ fun i hi=>by match i,hi with | 0,_=>exact b5p _ _ _ 0 | 1,_=>exact b5p _ _ _ 1 | 2,_=>exact b5p _ _ _ 2) (.imm _) (.imm _)
end
theorem b3p (s:List UInt8) (l:List Mn) (hs:s.length≤9223372036854775807):(∃ z:Int,TabP s l (t4 b3z c7W (intV z) (boolV false)))∨∃ wd on β p e S R,TabOk s l wd on β p e S R:=by
 rcases c0H s l hs with ⟨x,hx⟩ | ⟨e,hx,hne,hel,hmb⟩ | ⟨wd,on,β,p,e,V⟩
 ·exact .inl ⟨x,b9J s l _ x false hx (fun sh=>.imm _) 0 (fun _ _=>default) (.inr rfl) (.inl rfl)⟩
 ·exact .inl ⟨6,b9J s l _ 6 true hx (fun sh=>Frz.fz) _ _ (.inl rfl) (.inr (by decide))⟩
 ·obtain ⟨k,hk⟩:=V.tab
  by_cases h:0 < e.length∧25 < k
  ·rw [if_pos h] at hk;exact .inl ⟨0,hk⟩
  ·rw [if_neg h] at hk
   rcases ht:tabV wd on β p with _ | ⟨S,R⟩
   ·rw [ht] at hk;exact .inl ⟨7,hk⟩
   ·rw [ht] at hk;exact .inr ⟨wd,on,β,p,e,S,R,V,ht,hk⟩
def c4D (n:Nat) (r:List Int):Prop:=r.length=32∧∀ x∈r,-1≤x∧x < (n:Int)∧x≠0
theorem c6q (z:Bag) (g:List Bag→Nat→Nat→Bag) {S':List Bag} {R':List (List Int)} (n:Nat):∀ (at_:Nat) (S:List Bag) (R:List (List Int)),R.length=at_→at_≤S.length→1≤S.length→S.length≤200→200≤n+at_→(∀ r∈R,c4D S.length r)→c3F z g n at_ S R=some (S',R')→R'.length=S'.length∧1≤S'.length∧S'.length≤200∧∀ r∈R',c4D S'.length r:=by
  induction n with
  | zero =>
    intro at_ S R h1 h2 h3 h4 h5 h6 h
    injection h with h;injection h with ha hb;subst ha;subst hb
    exact ⟨by omega,h3,h4,h6⟩
  | succ n ih =>
    intro at_ S R h1 h2 h3 h4 h5 h6 h
    have e:c3F z g (n+1) at_ S R=if at_ < S.length then (if 200 < (a1z z (g S at_) S 32).1.length then none else c3F z g n (at_+1) (a1z z (g S at_) S 32).1 (R++[(a1z z (g S at_) S 32).2])) else some (S,R):=rfl
    have hl:=a3O z (g S at_) S 32
    have ht:=b8B z (g S at_) S h3 32
    rw [e] at h
    clear e
    generalize a1z z (g S at_) S 32=w at h hl ht
    obtain ⟨A,r⟩:=w
    dsimp only at h hl ht
    by_cases hlt:at_ < S.length
    · rw [if_pos hlt] at h
      by_cases hle:200 < A.length
      · rw [if_pos hle] at h;cases h
      · rw [if_neg hle] at h
        refine ih (at_+1) A _ (by simp [h1]) (by omega) (by omega) (by omega) (by omega) (fun q hq=>?_) h
        rcases List.mem_append.1 hq with hq | hq
        · exact ⟨(h6 q hq).1,fun x hx=>by have:=(h6 q hq).2 x hx;omega⟩
        · simp at hq;subst hq;exact ⟨hl.2.2,ht⟩
    · rw [if_neg hlt] at h
      injection h with h;injection h with ha hb;subst ha;subst hb
      exact ⟨by omega,h3,h4,h6⟩
theorem b4D {wd:Nat} {on:List Bag} {β:Nat→Bag} {p:Pc} {S:List Bag} {R:List (List Int)} (h:tabV wd on β p=some (S,R)):R.length=S.length∧1≤S.length∧S.length≤200∧∀ r∈R,c4D S.length r :=
 c6q _ _ 200 0 [Bag.zero] [] rfl (Nat.zero_le _) (Nat.le_refl _) (by show 1≤200;omega) (Nat.le_refl _) (fun r hr=>by cases hr) h
theorem b2f {wd:Nat} {on:List Bag} {β:Nat→Bag} {p:Pc} {S:List Bag} {R:List (List Int)} (h:tabV wd on β p=some (S,R)):c1N R:=fun i hi s hs=>by
 obtain ⟨h1,h2,h3,h4⟩:=b4D h
 have e:R.getD i []=R[i]:=by rw [List.getD_eq_getElem?_getD,List.getElem?_eq_getElem hi];rfl
 have h5:=h4 _ (List.getElem_mem hi)
 have hs2:s < R[i].length:=by rw [h5.1];exact hs
 have e2:R[i].getD s 0=R[i][s]:=by rw [List.getD_eq_getElem?_getD,List.getElem?_eq_getElem hs2];rfl
 rw [e,e2]
 have:=h5.2 _ (List.getElem_mem hs2)
 rw [h1]
 exact ⟨this.1,this.2.1⟩
section
variable {P:Program} {ov:Nat→Option HV} {g:Nat} {d:Option Tmp} {ty:TypeId} {pos:String} {af:Array Edge} {gd:Option (Nat×Bool)} {T yT:TypeId} {x y:Operand}
theorem b4l {n:Nat} {f:Nat→HV} (hn:n=1) (hT:a5L P T=true) (h1:ovl ov x=some (.imm (.pointer none))) (h2:ovl ov y=some (.fp n f)):HOp P ⟨d,.binOp .eql T x y yT,ty,pos,af,gd⟩ ov g [] (.imm (.bool false)) [] :=
  a0q fun w E ρ hr=>by
    have h:=hr y _ (by simp [Op.operands]) h2
    have e2:=Rep.imm_inv (hr x _ (by simp [Op.operands]) h1)
    generalize hρ:ρ y=u at h
    cases h with
    | fp b k _ _ vs _ _ =>
      refine ⟨.bool false,?_,.imm _⟩
      have hT2:=hT
      unfold a5L at hT2
      cases hu:P.underlying T with
      | none=>rw [hu] at hT2;cases hT2
      | some dd =>
        rw [hu] at hT2
        cases dd <;> first | cases hT2 | skip
        have e:Op.equal T (.pointer none) (.pointer (some ⟨b,k,none⟩))=Op.equalIn (Op.maxDepth - 1+1) T (.pointer none) (.pointer (some ⟨b,k,none⟩)):=rfl
        simp [execOp,hρ,e2,eqGuard,binOp,e,Op.equalIn,run_underlying hu]
end
theorem c2o (T:List (List Int)) (B:List Bool):HPure Tryz.prog 8 [b3z,tabP T B] (boolV false):=by
 refine a0k Tryz.func8 rfl kr _ _ _ rfl 66 rfl rfl (fun w F=>?_)
 refine ru 16 ?_
 refine wdc (fun hr0 hc0=>?_) (fun hr0 hc0=>?_)
 ·refine ru 4 ?_
  refine s0 (b4l rfl kr rfl rfl) ?_
  refine ru 5 ?_
  refine rt1 ?_
  exact Frz.fz
 exfalso;simp at hr0
theorem c2k (T:List (List Int)) (B:List Bool):HPure Tryz.prog 8 [tabP T B,b3z] (boolV false):=by
 refine a0k Tryz.func8 rfl kr _ _ _ rfl 66 rfl rfl (fun w F=>?_)
 refine ru 16 ?_
 refine wdc (fun hr0 hc0=>?_) (fun hr0 hc0=>?_)
 ·refine ru 4 ?_
  refine s0 (a9p kr rfl rfl) ?_
  refine ru 5 ?_
  refine rt1 ?_
  exact Frz.fz
 exfalso;simp at hr0
theorem c1Y:HPure Tryz.prog 8 [b3z,b3z] (boolV true):=by
 refine a0k Tryz.func8 rfl kr _ _ _ rfl 66 rfl rfl (fun w F=>?_)
 refine ru 16 ?_
 refine wdc (fun hr0 hc0=>?_) (fun hr0 hc0=>?_)
 ·refine ru 4 ?_
  refine s0 (a8N kr rfl rfl) ?_
  refine ru 5 ?_
  refine rt1 ?_
  exact Frz.fz
 exfalso;simp at hr0
theorem b9O (w:World) (a0 a1 b0 b1:Int) (d:Nat):(Op.equalIn (d+2) 36 (.agg #[.int .i64 a0,.int .i64 a1]) (.agg #[.int .i64 b0,.int .i64 b1])).run Tryz.prog w=.ok (decide (((a0,a1):Int×Int)=(b0,b1))) w:=by
 unfold Op.equalIn
 simp only [Sem.run_bind,run_underlying Tryz.underlying36,Result.andThen_ok]
 simp [List.range',part,go_sem]
 by_cases h0:a0=b0 <;> by_cases h1:a1=b1 <;> simp [h0,h1]
theorem c3X {w:World} {E:Env} {v:Value} {p:Int×Int} {f:Nat→HV} (h0:f 0=intV p.1) (h1:f 1=intV p.2) (h:Rep w E v (.agg 2 f)):v=a6s p :=
 a6C (f:=f) (cs:=[.int .i64 p.1,.int .i64 p.2]) rfl (by intro i hi;match i,hi with | 0,_=>exact ⟨_,h0,rfl⟩ | 1,_=>exact ⟨_,h1,rfl⟩) _ _ _ h
section
variable {ov:Nat→Option HV} {g:Nat} {d:Option Tmp} {ty:TypeId} {pos:String} {af:Array Edge} {gd:Option (Nat×Bool)} {T yT:TypeId} {x y:Operand}
theorem b7k (s t:Int×Int) {f1 f2:Nat→HV} (hT:T=36) (h1:ovl ov x=some (.agg 2 f1)) (h2:ovl ov y=some (.agg 2 f2)) (a0:f1 0=intV s.1) (a1:f1 1=intV s.2) (b0:f2 0=intV t.1) (b1:f2 1=intV t.2) :
  HOp Tryz.prog ⟨d,.binOp .eql T x y yT,ty,pos,af,gd⟩ ov g [] (.imm (.bool (decide (s=t)))) [] :=
 a0q fun w E ρ hr=>by
  have hG:Tryz.prog.eqGuardType Tryz.prog.depth 36=false:=by kernel_rfl
  subst hT
  have e1:=c3X a0 a1 (hr x _ (by simp [Op.operands]) h1)
  have e2:=c3X b0 b1 (hr y _ (by simp [Op.operands]) h2)
  refine ⟨_,?_,.imm _⟩
  have hg:(eqGuard .eql 36 x y (a6s s) (a6s t)).run Tryz.prog w=.ok () w:=by
   simp [eqGuard,program,Sem.run,hG,Sem.run_bind]
  have hT:(binOp .eql 36 (a6s s) (a6s t)).run Tryz.prog w=.ok (.bool (decide (s=t))) w:=by
   simp only [run_eql_struct,b9O w _ _ _ _ 9998,Result.andThen_ok]
  simp only [execOp,e1,e2,Sem.run_bind,hg,Result.andThen_ok,hT,Sem.run_pure]
end
theorem c6u {n m:Nat} {p:Int×Int} (h:p∈b1Z n m):-1≤p.1∧p.1 < n∧-1≤p.2∧p.2 < m:=by
 unfold b1Z at h
 rw [List.mem_flatMap] at h
 obtain ⟨a,ha,h⟩:=h
 obtain ⟨b,hb,rfl⟩:=List.mem_map.1 h
 rw [List.mem_range] at ha hb
 exact ⟨by show -1≤(a:Int) - 1;omega,by show (a:Int) - 1 < n;omega,by show -1≤(b:Int) - 1;omega,by show (b:Int) - 1 < m;omega⟩
theorem c1E {L:List (Int×Int)} {q:Int×Int} {j:Nat} (h:j < L.length):decide (q∈L.take (j+1))=(decide (q∈L.take j)||decide (L.getD j (0,0)=q)):=by
 have e:L.take (j+1)=L.take j++[L.getD j (0,0)]:=by rw [List.take_add_one,List.getElem?_eq_getElem h,List.getD_eq_getElem?_getD,List.getElem?_eq_getElem h];rfl
 rw [e,Bool.eq_iff_iff,Bool.or_eq_true,decide_eq_true_eq,decide_eq_true_eq,decide_eq_true_eq,List.mem_append,List.mem_singleton];exact or_congr Iff.rfl eq_comm
@[reducible] def c9P (g:Nat) (L:List (Int×Int)):HObj:=⟨g,L.length,2,36,0,fun i j=>prV (L.getD i (0,0)) j⟩
theorem b7y (S:List Bag) (R:List (List Int)) (A:List Bool) (S2:List Bag) (T:List (List Int)) (B:List Bool) (hR:c1N R) (hT:c1N T) (hn:R.length≤1000) (hm:T.length≤1000) (h0:0 < R.length) (h1:0 < T.length) (hA:A.length=R.length) (hB:B.length=T.length):HPure Tryz.prog 9 [tabD S R A,tabD S2 T B] (boolV (goQ (b7M R A T B) (a7L R T) (0,0) (b1Z R.length T.length).length 0 [(0,0)])):=by
 have hlen:(b1Z R.length T.length).length≤1002001:=by rw [b5h];exact Nat.mul_le_mul (show R.length+1≤1001 by omega) (show T.length+1≤1001 by omega)
 have hU:∀ p k,a7L R T p k∈b1Z R.length T.length:=fun p k=>a8e ⟨(a7J hR _ _).1,(a7J hR _ _).2,(a7J hT _ _).1,(a7J hT _ _).2⟩
 have hz:((0:Int),(0:Int))∈b1Z R.length T.length:=a8e ⟨by omega,by omega,by omega,by omega⟩
 have hin:∀ p∈b1Z R.length T.length,-1≤p.1∧p.1 < R.length∧-1≤p.2∧p.2 < T.length:=fun p hp=>c6u hp
 generalize hUU:b1Z R.length T.length=U at hlen hU hz hin ⊢
 refine a0k Tryz.func9 rfl kr _ _ _ rfl 84 rfl rfl (fun w F=>?_)
 refine ru 9 ?_
 refine s0 (a5z (m:=2) (hs:=[(0,1,_),(1,1,_)]) ar_36.h rfl rfl ⟨rfl,rfl,rfl,rfl,rfl,⟨rfl,rfl,rfl,rfl,rfl,trivial⟩⟩) ?_
 refine a0u 14 (a0b (id:=14) (hs:=[_]) ei_80.h omx rfl omx ⟨rfl,rfl,rfl,rfl,trivial⟩) rfl rfl a0g rfl rfl (c':=3) rfl ?_
 refine ru 10 ?_
 refine a0l (α:=Nat×List (Int×Int)×Nat) (fun x c=>⟨84,[(2,.v (.pt 2 0 0 0)),(3,.v (.pt 3 1 0 0)),(5,.v (.os 14 x.2.2 0 x.2.1.length)),(6,.v (intV (x.1:Int)))],[(2,⟨0,1,3,28,0,fun _=>tdF S R A⟩),(3,⟨1,1,3,28,0,fun _=>tdF S2 T B⟩),(14,c9P x.2.2 x.2.1)],c⟩) (fun x=>x.1≤x.2.1.length∧x.2.1.Nodup∧(∀ p∈x.2.1,p∈U)∧goQ (b7M R A T B) (a7L R T) (0,0) U.length 0 [(0,0)]=goQ (b7M R A T B) (a7L R T) (0,0) U.length x.1 x.2.1) (fun x=>U.length - x.1) ((0,[(0,0)],_)) (by exact ⟨by simp,by simp,by simpa using hz,rfl⟩) (a0c rfl (Nat.le_refl _) tsa (a0e.cons rfl (b8C (.refl _) (.refl _) (.refl _)) (a0e.cons rfl (b8C (.refl _) (.refl _) (.refl _)) (a0e.cons rfl (b1o (.refl _) (.refl _)) a0e.nil)))) (fun x c hx NhL1 hL1=>?_)
 revert hx hL1;obtain ⟨i,L,g⟩:=x;intro hx hL1;dsimp only at hx hL1 ⊢
 obtain ⟨hx1,hx2,hx3,hx4⟩:=hx
 have hle:=a7Z hx2 hx3
 refine ru 9 ?_
 refine wdc (fun hr0 hc0=>?_) (fun hr0 hc0=>?_)
 ·skip
  have hi:i < L.length:=om;obtain ⟨p,hp⟩:∃ p,L.getD i (0,0)=p:=⟨_,rfl⟩;have hpi:=hin p (hx3 p (by rw [←hp,List.getD_eq_getElem?_getD,List.getElem?_eq_getElem hi];exact List.getElem_mem hi));have hbb:b7M R A T B p=((decide (p.1≥0)&&A.getD p.1.toNat false) != (decide (p.2≥0)&&B.getD p.2.toNat false)):=(by show ((c3A R p.1&&_) != (c3A T p.2&&_))=_;unfold c3A;rw [decide_eq_true hpi.2.1,decide_eq_true hpi.2.2.2,Bool.and_true,Bool.and_true])
  refine ru 11 ?_
  refine rvl (intV p.1) ((by show prV (L.getD (0+((i:Nat):Int).toNat) (0,0)) 0=_;rw [show 0+((i:Nat):Int).toNat=i by omega,hp];rfl)) ?_
  refine ru 10 ?_
  refine rvl (intV p.2) ((by show prV (L.getD (0+((i:Nat):Int).toNat) (0,0)) 1=_;rw [show 0+((i:Nat):Int).toNat=i by omega,hp];rfl)) ?_
  refine ru 10 ?_
  first
  | refine a8b 35 2 33 true _ (fun hb=>a0D ty_26.h rfl (by first | exact Nat.le_of_ble_eq_true rfl | (simp at hb;first | omega | (dsimp only;omega) | (simp <;> omega)) | omega | (dsimp only;omega)) (by first | exact Nat.le_of_ble_eq_true rfl | (simp at hb;first | omega | (dsimp only;omega) | (simp <;> omega)) | omega | (dsimp only;omega)) (fun h=>(by first | rfl | cases h))) rfl rfl rfl rfl (a0P rfl) rfl rfl rfl (k':=5) rfl ?_
  | refine a8b 35 2 33 true _ (fun hb=>a0r ty_26.h rfl (by first | exact Nat.le_of_ble_eq_true rfl | (simp at hb;first | omega | (dsimp only;omega) | (simp <;> omega)) | omega | (dsimp only;omega)) (fun h=>(by first | rfl | cases h))) rfl rfl rfl rfl a0g rfl rfl rfl (k':=5) rfl ?_
  refine ru 8 ?_
  first
  | refine a8b 44 11 42 true _ (fun hb=>a0D ty_26.h rfl (by first | exact Nat.le_of_ble_eq_true rfl | (simp at hb;first | omega | (dsimp only;omega) | (simp <;> omega)) | omega | (dsimp only;omega)) (by first | exact Nat.le_of_ble_eq_true rfl | (simp at hb;first | omega | (dsimp only;omega) | (simp <;> omega)) | omega | (dsimp only;omega)) (fun h=>(by first | rfl | cases h))) rfl rfl rfl rfl (a0P rfl) rfl rfl rfl (k':=14) rfl ?_
  | refine a8b 44 11 42 true _ (fun hb=>a0r ty_26.h rfl (by first | exact Nat.le_of_ble_eq_true rfl | (simp at hb;first | omega | (dsimp only;omega) | (simp <;> omega)) | omega | (dsimp only;omega)) (fun h=>(by first | rfl | cases h))) rfl rfl rfl rfl a0g rfl rfl rfl (k':=14) rfl ?_
  refine ru 5 ?_
  refine a8K kr kr (c':=c+19) rfl ?_
  refine ru 1 ?_
  refine wdc (fun hr1 hc1=>?_) (fun hr1 hc1=>?_)
  ·refine ru 9 ?_
   refine a0o ?_
   refine ru 2 ?_
   refine rt1 ?_
   exact a2c (by rw [hx4,b9L hi hle (by rw [hp,hbb];exact hr1)])
  have hbad:¬ b7M R A T B (L.getD i (0,0))=true:=(by rw [hp,hbb];simpa using hc1)
  refine ru 8 ?_
  refine a0l (α:=Nat×List (Int×Int)×Nat) (fun x c=>⟨84,[(2,.v (.pt 2 0 0 0)),(3,.v (.pt 3 1 0 0)),(5,.v (.os 14 x.2.2 0 x.2.1.length)),(6,.v (intV (i:Int))),(7,.v (intV p.1)),(8,.v (intV p.2)),(9,.v (intV (x.1:Int)))],[(2,⟨0,1,3,28,0,fun _=>tdF S R A⟩),(3,⟨1,1,3,28,0,fun _=>tdF S2 T B⟩),(14,c9P x.2.2 x.2.1)],c⟩) (fun x=>x.1≤32∧x.2.1=b5I (a7L R T p) L x.1) (fun x=>32 - x.1) ((0,L,g)) (by exact ⟨Nat.zero_le _,rfl⟩) (a0c rfl (Nat.le_refl _) tsa hsa) (fun x c hx NhL2 hL2=>?_)
  revert hx hL2;obtain ⟨k,L2,g2⟩:=x;intro hx hL2;dsimp only at hx hL2 ⊢
  obtain ⟨hy1,hy0⟩:=hx
  have hrk:=b1a (a7L R T p) L k;have hrU:=a7Z (a4k hx2 k) (a5A hx3 (fun k=>hU p k) k);rw [←hy0] at hrk hrU
  refine ru 7 ?_
  refine wdc (fun hr2 hc2=>?_) (fun hr2 hc2=>?_)
  ·skip
   have hk32:k < 32:=om
   refine ru 9 ?_
   refine d0 4 (a0f (xs:=[_,_,_]) (c0G S R A p.1 k hpi.2.1 om) ⟨rfl,⟨rfl,⟨rfl,trivial⟩⟩⟩ ⟨(b1n S R A),⟨fe,⟨fe,trivial⟩⟩⟩) ?_
   refine ru 3 ?_
   refine d0 8 (a0f (xs:=[_,_,_]) (c0G S2 T B p.2 k hpi.2.2.2 om) ⟨rfl,⟨rfl,⟨rfl,trivial⟩⟩⟩ ⟨(b1n S2 T B),⟨fe,⟨fe,trivial⟩⟩⟩) ?_
   refine d0 9 (a5z (m:=2) (hs:=[(0,1,_),(1,1,_)]) ar_36.h rfl rfl ⟨rfl,rfl,rfl,rfl,rfl,⟨rfl,rfl,rfl,rfl,rfl,trivial⟩⟩) ?_
   refine a2n 10 (a0T (id:=10) (sz:=2) zc_36.h rfl rfl omx omx) rfl rfl a0g rfl rfl (k':=10) rfl ?_
   refine ru 15 ?_
   refine a0l (α:=Nat×Nat) (fun x c=>⟨84,[(2,.v (.pt 2 0 0 0)),(3,.v (.pt 3 1 0 0)),(5,.v (.os 14 g2 0 L2.length)),(6,.v (intV (i:Int))),(7,.v (intV p.1)),(8,.v (intV p.2)),(9,.v (intV (k:Int))),(10,.v (.pt 10 x.2 0 0)),(11,.v (boolV (decide (a7L R T p k∈L2.take x.1)))),(12,.v (intV (x.1:Int)))],[(2,⟨0,1,3,28,0,fun _=>tdF S R A⟩),(3,⟨1,1,3,28,0,fun _=>tdF S2 T B⟩),(14,c9P g2 L2),(10,⟨x.2,1,2,36,0,fun _=>prV (a7L R T p k)⟩)],c⟩) (fun x=>x.1≤L2.length) (fun x=>L2.length - x.1) ((0,_)) om (a0c rfl (Nat.le_refl _) tsa (hsr rfl (hsr rfl (hsr rfl (a0e.cons rfl (b1o (.refl _) (.refl _)) a0e.nil))))) (fun x c hx NhL3 hL3=>?_)
   revert hx hL3;obtain ⟨j,g10⟩:=x;intro hx hL3;dsimp only at hx hL3 ⊢
   refine ru 9 ?_
   refine wdc (fun hr3 hc3=>?_) (fun hr3 hc3=>?_)
   ·skip
    have hjl:j < L2.length:=om;have hj0:0+((j:Nat):Int).toNat=j:=om
    refine ru 9 ?_
    first
    | refine a8b 73 1 70 false _ (fun hb=>a6t el_80.h rfl rfl (by first | exact Nat.le_of_ble_eq_true rfl | (simp at hb;first | omega | (dsimp only;omega) | (simp <;> omega)) | omega | (dsimp only;omega)) (by first | exact Nat.le_of_ble_eq_true rfl | (simp at hb;first | omega | (dsimp only;omega) | (simp <;> omega)) | omega | (dsimp only;omega)) (by first | exact Nat.le_of_ble_eq_true rfl | (simp at hb;first | omega | (dsimp only;omega) | (simp <;> omega)) | omega | (dsimp only;omega))) rfl rfl rfl rfl a0g rfl rfl rfl (k':=5) rfl ?_
    | refine a8b 73 1 70 false _ (fun hb=>a4l el_80.h rfl rfl (by first | exact Nat.le_of_ble_eq_true rfl | (simp at hb;first | omega | (dsimp only;omega) | (simp <;> omega)) | omega | (dsimp only;omega)) (by first | exact Nat.le_of_ble_eq_true rfl | (simp at hb;first | omega | (dsimp only;omega) | (simp <;> omega)) | omega | (dsimp only;omega))) rfl rfl rfl rfl (a0P rfl) rfl rfl rfl (k':=5) rfl ?_
    first
    | refine a8b 74 1 70 false _ (fun hb=>a0D ty_36.h rfl (by first | exact Nat.le_of_ble_eq_true rfl | (simp at hb;first | omega | (dsimp only;omega) | (simp <;> omega)) | omega | (dsimp only;omega)) (by first | exact Nat.le_of_ble_eq_true rfl | (simp at hb;first | omega | (dsimp only;omega) | (simp <;> omega)) | omega | (dsimp only;omega)) (fun h=>(by first | rfl | cases h))) rfl rfl rfl rfl (a0P rfl) rfl rfl rfl (k':=6) rfl ?_
    | refine a8b 74 1 70 false _ (fun hb=>a0r ty_36.h rfl (by first | exact Nat.le_of_ble_eq_true rfl | (simp at hb;first | omega | (dsimp only;omega) | (simp <;> omega)) | omega | (dsimp only;omega)) (fun h=>(by first | rfl | cases h))) rfl rfl rfl rfl a0g rfl rfl rfl (k':=6) rfl ?_
    first
    | refine a8b 75 1 70 false _ (fun hb=>a0D ty_36.h rfl (by first | exact Nat.le_of_ble_eq_true rfl | (simp at hb;first | omega | (dsimp only;omega) | (simp <;> omega)) | omega | (dsimp only;omega)) (by first | exact Nat.le_of_ble_eq_true rfl | (simp at hb;first | omega | (dsimp only;omega) | (simp <;> omega)) | omega | (dsimp only;omega)) (fun h=>(by first | rfl | cases h))) rfl rfl rfl rfl (a0P rfl) rfl rfl rfl (k':=7) rfl ?_
    | refine a8b 75 1 70 false _ (fun hb=>a0r ty_36.h rfl (by first | exact Nat.le_of_ble_eq_true rfl | (simp at hb;first | omega | (dsimp only;omega) | (simp <;> omega)) | omega | (dsimp only;omega)) (fun h=>(by first | rfl | cases h))) rfl rfl rfl rfl a0g rfl rfl rfl (k':=7) rfl ?_
    refine a8b 76 1 70 false _ (fun hb=>b7k (L2.getD j (0,0)) (a7L R T p k) rfl rfl rfl (congrArg (fun q=>prV (L2.getD q (0,0)) 0) hj0) (congrArg (fun q=>prV (L2.getD q (0,0)) 1) hj0) rfl rfl) rfl rfl rfl rfl a0g rfl rfl rfl (k':=8) rfl ?_
    refine ru 2 ?_
    refine a8K kr kr (c':=c+10) rfl ?_
    refine ru 7 ?_
    exact hL3 ((j+1,g10)) _ _ (by (try dsimp only);omega) (by (try dsimp only);omega) (a0c rfl (Nat.le_refl _) (tsr rfl (tsr rfl (tsr rfl (tsr rfl (tsr rfl (tsr rfl (tsr rfl (tsr rfl (a0t.cons rfl (by rw [c1E hjl];exact .refl _) (a0t.cons rfl (a0F om) a0t.nil)))))))))) hsa)
   obtain rfl:j=L2.length:=om
   refine ru 2 ?_
   refine a0d ?_
   refine ru 8 ?_
   refine wdc (fun hr4 hc4=>?_) (fun hr4 hc4=>?_)
   ·skip
    have hnew:a7L R T p k∉L2:=(by simpa using hr4)
    refine ru 3 ?_
    refine a0u 82 (a0b (id:=82) (hs:=[_]) ei_80.h omx rfl omx ⟨rfl,rfl,rfl,rfl,trivial⟩) rfl rfl a0g rfl rfl (c':=c+1) rfl ?_
    first
    | refine a0u 83 (a0a ei_80.h (by first | exact Nat.le_of_ble_eq_true rfl | omega | (dsimp only;omega) | (simp <;> omega)) rfl (by first | exact Nat.le_of_ble_eq_true rfl | omega | (dsimp only;omega) | (simp <;> omega)) (by first | exact Nat.le_of_ble_eq_true rfl | omega | (dsimp only;omega) | (simp <;> omega)) (a0x rfl (by first | exact Nat.le_of_ble_eq_true rfl | omega | (dsimp only;omega) | (simp <;> omega))) (by first | exact Nat.le_of_ble_eq_true rfl | omega | (dsimp only;omega) | (simp <;> omega)) rfl) rfl rfl (a0i rfl (a0P rfl)) rfl rfl (c':=c+2) rfl ?_
    | refine a0u 83 (a0a ei_80.h (by first | exact Nat.le_of_ble_eq_true rfl | omega | (dsimp only;omega) | (simp <;> omega)) rfl (by first | exact Nat.le_of_ble_eq_true rfl | omega | (dsimp only;omega) | (simp <;> omega)) (by first | exact Nat.le_of_ble_eq_true rfl | omega | (dsimp only;omega) | (simp <;> omega)) (a0U rfl (by first | exact Nat.le_of_ble_eq_true rfl | omega | (dsimp only;omega) | (simp <;> omega))) (by first | exact Nat.le_of_ble_eq_true rfl | omega | (dsimp only;omega) | (simp <;> omega)) rfl) rfl rfl (a0i rfl (a0P rfl)) rfl rfl (c':=c+2) rfl ?_
    | refine a0u 83 (a0a ei_80.h (by first | exact Nat.le_of_ble_eq_true rfl | omega | (dsimp only;omega) | (simp <;> omega)) rfl (by first | exact Nat.le_of_ble_eq_true rfl | omega | (dsimp only;omega) | (simp <;> omega)) (by first | exact Nat.le_of_ble_eq_true rfl | omega | (dsimp only;omega) | (simp <;> omega)) (a0O rfl) (by first | exact Nat.le_of_ble_eq_true rfl | omega | (dsimp only;omega) | (simp <;> omega)) rfl) rfl rfl (a0i rfl a0g) rfl rfl (c':=c+2) rfl ?_
    | refine a0u 83 (a0a ei_80.h (by first | exact Nat.le_of_ble_eq_true rfl | omega | (dsimp only;omega) | (simp <;> omega)) rfl (by first | exact Nat.le_of_ble_eq_true rfl | omega | (dsimp only;omega) | (simp <;> omega)) (by first | exact Nat.le_of_ble_eq_true rfl | omega | (dsimp only;omega) | (simp <;> omega)) (a0A 2 (fun _ _=>default) rfl) (by first | exact Nat.le_of_ble_eq_true rfl | omega | (dsimp only;omega) | (simp <;> omega)) rfl) rfl rfl (a0i rfl a0g) rfl rfl (c':=c+2) rfl ?_
    refine ru 9 ?_
    exact hL2 ((k+1,L2++[a7L R T p k],c+1)) _ _ (by (try dsimp only);exact ⟨by omega,by rw [hy0];show _=a9B (b5I _ L k) _;rw [←hy0];unfold a9B;rw [if_neg hnew]⟩) (by (try dsimp only);omega) (a0c rfl (Nat.le_refl _) (tsr rfl (tsr rfl (a0t.cons rfl (a3l (by simp)) (tsr rfl (tsr rfl (tsr rfl (a0t.cons rfl (a0F om) a0t.nil))))))) (hsr rfl (hsr rfl (a0e.cons rfl (a0G (enc:=prV) (d:=(0,0)) rfl (fun i j hi hj=>.refl _) (fun j hj=>by match j,hj with | 0,_=>exact .refl _ | 1,_=>exact .refl _)) a0e.nil))))
   have hold:a7L R T p k∈L2:=(by simpa using hr4)
   refine ru 8 ?_
   exact hL2 ((k+1,L2,g2)) _ _ (by (try dsimp only);exact ⟨by omega,by show L2=a9B (b5I _ L k) _;rw [←hy0];unfold a9B;rw [if_pos hold]⟩) (by (try dsimp only);omega) (a0c rfl (Nat.le_refl _) (tsr rfl (tsr rfl (tsr rfl (tsr rfl (tsr rfl (tsr rfl (a0t.cons rfl (a0F om) a0t.nil))))))) hsa)
  obtain rfl:k=32:=om
  refine ru 2 ?_
  refine a0d ?_
  refine ru 8 ?_
  exact hL1 ((i+1,L2,g2)) _ _ (by (try dsimp only);exact ⟨by omega,by rw [hy0];exact a4k hx2 32,by rw [hy0];exact a5A hx3 (fun k=>hU _ k) 32,by rw [hy0,hx4,c4i hi hle hbad,hp]⟩) (by (try dsimp only);omega) (a0c rfl (Nat.le_refl _) (tsr rfl (tsr rfl (tsr rfl (a0t.cons rfl (a0F om) a0t.nil)))) hsa)
 refine ru 2 ?_
 refine a0d ?_
 refine ru 8 ?_
 refine rt1 ?_
 exact a2c (by rw [hx4,b9m om])
theorem b2w {bad:Int×Int→Bool} {f:Int×Int→Nat→Int×Int} (hb:∀ p:Int×Int,p.1=p.2→bad p=false) (hf:∀ p k,p.1=p.2→(f p k).1=(f p k).2):∀ n i Q,(∀ p∈Q,p.1=p.2)→c5i bad f (0,0) n i Q=true
  | 0,i,Q,h=>rfl
  | n + 1, i, Q, h => by
    unfold c5i
    split
    · rename_i hi
      have hd:(Q.getD i (0,0)).1=(Q.getD i (0,0)).2:=by
        rw [List.getD_eq_getElem?_getD,List.getElem?_eq_getElem hi];exact h _ (List.getElem_mem hi)
      rw [if_neg (by rw [hb _ hd];simp)]
      exact b2w hb hf n (i+1) _ (a5A (p:=fun p:Int×Int=>p.1=p.2) h (fun k=>hf _ k hd) 32)
    · rfl
theorem c2l (R:List (List Int)) (A:List Bool) (N:Nat):goQ (b7M R A R A) (a7L R R) (0,0) N 0 [(0,0)]=true :=
 b2w (fun p h=>by unfold b7M;rw [h];simp) (fun p k h=>by show nxT R p.1 k=nxT R p.2 k;rw [h]) _ _ _ (fun p hp=>by simp at hp;subst hp;rfl)
theorem b7x (s o:List UInt8) (l:List Mn) (hs:s.length≤9223372036854775807) (ho:o.length≤9223372036854775807):HPure Tryz.prog 3 [strV s,strV o,mnsV l] (boolV true):=by
 have hn:=b3p s l hs
 have hn2:=b3p o l ho
 refine a0k Tryz.func3 rfl kr _ _ _ rfl 93 rfl rfl (fun w F=>?_)
 refine ru 6 ?_
 rcases hn with ⟨z,hq1⟩ | ⟨wd,on,β,p,e,S,R,V⟩ <;> rcases hn2 with ⟨z2,hq2⟩ | ⟨wd2,on2,β2,pb,eb,S2,R2,V2⟩
 ·refine ru 3 ?_
  refine cll (hq1) ?_
  refine ru 16 ?_
  refine cll (hq2) ?_
  refine ru 23 ?_
  refine wdc (fun hr0 hc0=>?_) (fun hr0 hc0=>?_)
  ·refine ru 2 ?_
   refine cll (a7s) ?_
   refine ru 5 ?_
   refine rt1 ?_
   exact .imm _
  exfalso;simp at hr0
 ·refine ru 3 ?_
  refine cll (hq1) ?_
  refine ru 16 ?_
  refine cll (V2.tab) ?_
  refine ru 23 ?_
  refine wdc (fun hr0 hc0=>?_) (fun hr0 hc0=>?_)
  ·refine ru 2 ?_
   refine cll (a7s) ?_
   refine ru 5 ?_
   refine rt1 ?_
   exact .imm _
  exfalso;simp at hr0
 ·refine ru 3 ?_
  refine cll (V.tab) ?_
  refine ru 16 ?_
  refine cll (hq2) ?_
  refine ru 23 ?_
  refine wdc (fun hr0 hc0=>?_) (fun hr0 hc0=>?_)
  ·refine ru 2 ?_
   refine cll (a7s) ?_
   refine ru 5 ?_
   refine rt1 ?_
   exact .imm _
  exfalso;simp at hr0
 ·refine ru 3 ?_
  refine cll (V.tab) ?_
  refine ru 16 ?_
  refine cll (V2.tab) ?_
  refine ru 23 ?_
  refine wdc (fun hr0 hc0=>?_) (fun hr0 hc0=>?_)
  ·skip
   exfalso;simp at hr0
  have hin:=b4D V.is;have hin2:=b4D V2.is;have hrw:=b2f V.is;have hrw2:=b2f V2.is;have hal:=a6M p.empty p.ends S;have hal2:=a6M pb.empty pb.ends S2;obtain ⟨hRS,hS1,hS2,hin4⟩:=hin;obtain ⟨hRS2,hS12,hS22,hin42⟩:=hin2
  refine ru 25 ?_
  refine wdc (fun hr1 hc1=>?_) (fun hr1 hc1=>?_)
  ·refine ru 9 ?_
   first
   | refine stg 62 (fun hb=>a0f (xs:=[]) (a7s) trivial trivial) rfl rfl rfl rfl rfl ?_
   | refine sth 62 (fun hb=>a0f (xs:=[]) (a7s) trivial trivial) rfl rfl rfl rfl rfl ?_
   refine ru 6 ?_
   refine rt1 ?_
   exact .imm _
  refine ru 6 ?_
  refine clx (b5J R _ R2 _ (a7J hrw) (a7J hrw2) om om om om) ?_
  refine ru 2 ?_
  refine d0 6 (a0f (xs:=[_,_]) (b7y S R _ S2 R2 _ hrw hrw2 om om om om om om) ⟨rfl,⟨rfl,trivial⟩⟩ ⟨(b1n S R _),⟨(b1n S2 R2 _),trivial⟩⟩) ?_
  refine ru 4 ?_
  refine a8b 75 7 72 true _ (fun hb=>a0f (xs:=[_,_]) (b5J R _ R _ (a7J hrw) (a7J hrw) om om om om) ⟨rfl,⟨rfl,trivial⟩⟩ ⟨fe,⟨fe,trivial⟩⟩) rfl rfl rfl rfl a0g rfl rfl rfl (k':=11) rfl ?_
  refine ru 3 ?_
  refine a8b 79 12 77 true _ (fun hb=>a0f (xs:=[_,_]) (c2o _ _) ⟨rfl,⟨rfl,trivial⟩⟩ ⟨fe,⟨fe,trivial⟩⟩) rfl rfl rfl rfl a0g rfl rfl rfl (k':=15) rfl ?_
  refine ru 4 ?_
  refine a8b 84 17 82 true _ (fun hb=>a0f (xs:=[_,_]) (c2k _ _) ⟨rfl,⟨rfl,trivial⟩⟩ ⟨fe,⟨fe,trivial⟩⟩) rfl rfl rfl rfl a0g rfl rfl rfl (k':=20) rfl ?_
  refine ru 3 ?_
  refine a8b 88 22 87 true _ (fun hb=>a0f (xs:=[_,_]) (c1Y) ⟨rfl,⟨rfl,trivial⟩⟩ ⟨fe,⟨fe,trivial⟩⟩) rfl rfl rfl rfl a0g rfl rfl rfl (k':=24) rfl ?_
  refine ru 2 ?_
  refine a8b 91 25 90 true _ (fun hb=>a0f (xs:=[]) (a7s) trivial trivial) rfl rfl rfl rfl a0g rfl rfl rfl (k':=27) rfl ?_
  refine ru 2 ?_
  refine a8K kr kr (c':=33) rfl ?_
  refine ru 2 ?_
  refine rt1 ?_
  exact a2c (by rw [c2l];simp)
end Go.Proofs.YtdbbbafiegpbpaaGreatDoor
namespace Go.Proofs.YtdbbbafiegpbpaaGreatDoor
set_option linter.unusedSimpArgs false
set_option linter.unusedVariables false
open Go.ChangeShapes Go.WideShapes Go.ChangeAt Go.RowKit Go.Deep
section
variable {H:Type} {encH:TypeId×Value→H} {P:Program} {w:World} {base:Nat} {spare:Nat→Bool} {held:Bool}
theorem b9I {α:Type} {t e:TypeId} {fuel:Nat} {A:Option Addr} {n c:Nat} {x:DataW H×List MemPlace} (ht:P.underlying t=some (.slice e)) (size:Nat) (hC:P.cellsOf e=size) (hpos:0 < size)
    (enc:α→List Value) (henc:∀ a,(enc a).length=size) (ok:α→Prop)
    (hel:∀ (m:Nat) (cs:List Value) (y:DataW H×List MemPlace),DataW.trod encH P w base spare held m e cs=some y→∃ a:α,cs=enc a∧ok a)
    (hf:DataW.trod encH P w base spare held fuel t [.slice A n c]=some x) :
    ∃ l:List α,l.length=n∧Sl w w.heap.size size enc A l∧n≤c∧c≤9223372036854775807∧∀ a∈l,ok a:=by
  rcases open_slice ht hf with ⟨h0,_⟩ | ⟨a,len,cap,m,k,D,Pl,hcs,hb,hl,hm,hmm,hx,hi⟩
  · injection h0 with h0 _
    injection h0 with h1 h2 h3
    subst h1;subst h2;subst h3
    exact ⟨[],rfl,⟨henc,a1k.none_⟩,by omega,by omega,by simp⟩
  · injection hcs with h0 _
    injection h0 with h1 h2 h3
    subst h1;subst h2;subst h3
    have hnm:n≤m:=by rw [hmm];split <;> omega
    have each:∀ k,k≤n→∃ l:List α,l.length=k∧(∀ i (hi:i < l.length),w.cells? base (a.add (i * size)) size=some (enc l[i]))∧∀ y∈l,ok y:=by
      intro k
      induction k with
      | zero=>intro _;exact ⟨[],rfl,fun i hi=>by simp at hi,by simp⟩
      | succ k ih =>
        intro hk
        obtain ⟨l,hl1,hl2,hl3⟩:=ih (by omega)
        obtain ⟨cs',h1,h2⟩:=hi k (by omega)
        rw [hC] at h1
        obtain ⟨a',rfl,hok⟩:=hel _ _ _ h2
        refine ⟨l++[a'],by simp [hl1],fun i hi=>?_,fun y hy=>?_⟩
        · by_cases hik:i < l.length
          · rw [List.getElem_append_left hik];exact hl2 i hik
          · have:i=k:=by simp at hi;omega
            subst this
            simp [hl1,h1]
        · rcases List.mem_append.1 hy with hy | hy
          · exact hl3 y hy
          · simp at hy;subst hy;exact hok
    obtain ⟨l,hl1,hl2,hl3⟩:=each n (Nat.le_refl _)
    refine ⟨l,hl1,⟨henc,?_,fun hn=>?_⟩,hl,by unfold maxLen at hm;omega,hl3⟩
    · have:∀ m:List α,(m.flatMap enc).length=m.length * size:=by
        intro m
        induction m with
        | nil=>simp
        | cons x m ih=>simp [List.flatMap_cons,ih,henc,Nat.add_mul,Nat.add_comm]
      exact this l
    · refine ⟨a,rfl,?_,fun j u hu=>?_⟩
      · have h0:=hl2 0 hn
        have:=World.cells?_block h0 hpos
        rwa [a3b] at this
      · have hfl:(l.flatMap enc).length=l.length * size:=by
          have:∀ m:List α,(m.flatMap enc).length=m.length * size:=by
            intro m
            induction m with
            | nil=>simp
            | cons x m ih=>simp [List.flatMap_cons,ih,henc,Nat.add_mul,Nat.add_comm]
          exact this l
        have hj:j < l.length * size:=by
          rcases Nat.lt_or_ge j (l.flatMap enc).length with hlt | hge
          · rw [hfl] at hlt;exact hlt
          · rw [List.getElem?_eq_none hge] at hu;cases hu
        have hjd:j / size < l.length:=(Nat.div_lt_iff_lt_mul hpos).2 hj
        have hjm:j % size < size:=Nat.mod_lt _ hpos
        have e1:j=j / size * size+j % size:=by rw [Nat.mul_comm];exact (Nat.div_add_mod j size).symm
        rw [e1] at hu ⊢
        rw [a1S henc _ _ _ hjd hjm] at hu
        have:=(World.cells?_some (hl2 _ hjd)).2.2 (j % size) hjm
        rw [a5t] at this
        rw [this,hu]
def c8A (x:Int):Prop:=(Lit.int .i64 x).wf=true
theorem c7i {e:TypeId} (he:P.underlying e=some (.int .i64)) (m:Nat) (cs:List Value) (y:DataW H×List MemPlace) (h:DataW.trod encH P w base spare held m e cs=some y):∃ a:Int,cs=a7p a∧c8A a:=by
 obtain ⟨b,rfl,_,hw⟩:=DataW.trod_int he h
 exact ⟨b,rfl,hw⟩
end
structure PtI where
 v:Pt
 A:Option Addr
 n:Nat
 c:Nat
def PtI.cells (x:PtI):List Value:=[.int .i64 x.v.kind,.int .i64 x.v.low,.int .i64 x.v.high,.string ⟨x.v.name.toArray⟩,.slice x.A x.n x.c]
def PtI.none:PtI:=⟨default,.none,0,0⟩
theorem PtI.cells_length (x:PtI):x.cells.length=5:=by simp [PtI.cells]
def PtI.inOk (w:World) (x:PtI):Prop:=x.v.kids.length=x.n∧Sl w w.heap.size 1 a7p x.A x.v.kids∧x.n≤x.c∧x.c≤9223372036854775807
section
variable {H:Type} {encH:TypeId×Value→H} {w:World} {base:Nat} {spare:Nat→Bool} {held:Bool}
theorem b7n {P:Program} {t e:TypeId} (ht:P.underlying t=some (.slice e)) {fuel:Nat} {v:Value} {x:DataW H×List MemPlace} (hf:DataW.trod encH P w base spare held fuel t [v]=some x):∃ A n c,v=.slice A n c:=by
 rcases open_slice ht hf with ⟨h0,_⟩ | ⟨a,len,cap,m,k,D,Pl,hcs,_⟩
 ·injection h0 with h0 _;exact ⟨_,_,_,h0⟩
 ·injection hcs with h0 _;exact ⟨_,_,_,h0⟩
end
theorem c1g (x:Int):∀ u∈a7p x,u.oneCell'=true:=by
 intro u hu
 simp only [a7p,List.mem_cons,List.not_mem_nil,or_false] at hu
 subst hu;rfl
theorem c1J {w:World} {B:Nat} {A:Option Addr} {c:Nat} {l:List Int} (h:Sl w B 1 a7p A l) (hc:l.length≤c) (hm:c≤maxLen):Rep w (Env.just (c6Q w)) (.slice A l.length c) (a1v l) :=
 c3q 1 (by omega) a7p c1g (fun x _=>intV x) 0 l hc hm h (fun i j _ hj=>by
  match j,hj with
  | 0,_=>exact .imm _)
structure MnI where
 v:Mn
 A:Option Addr
 n:Nat
 c:Nat
def MnI.cells (x:MnI):List Value:=[.string ⟨x.v.name.toArray⟩,.slice x.A x.n x.c]
def MnI.none:MnI:=⟨default,.none,0,0⟩
theorem MnI.cells_length (x:MnI):x.cells.length=2:=by simp [MnI.cells]
def MnI.inOk (w:World) (x:MnI):Prop:=x.v.on.length=x.n∧Sl w w.heap.size 1 a7p x.A x.v.on∧x.n≤x.c∧x.c≤9223372036854775807
theorem c6o (x:MnI):∀ u∈x.cells,u.oneCell'=true:=by
 intro u hu
 simp only [MnI.cells,List.mem_cons,List.not_mem_nil,or_false] at hu
 rcases hu with rfl | rfl <;> rfl
section
variable {H:Type} {encH:TypeId×Value→H} {w:World} {base:Nat} {spare:Nat→Bool} {held:Bool}
set_option maxRecDepth 100000 in
theorem c9y (m:Nat) (cs:List Value) (y:DataW H×List MemPlace) (h:DataW.trod encH Tryz.prog w base spare held m 145 cs=some y):∃ t:MnI,cs=t.cells∧t.inOk w:=by
  obtain ⟨xs,k,_,_,hlen,hxl,hx⟩:=DataW.trod_struct Tryz.underlying145 h
  have hC:Tryz.prog.cellsOf 145=2:=by kernel_rfl
  have hS:Tryz.prog.cellsOf 9=1:=by kernel_rfl
  have hK:Tryz.prog.cellsOf 49=1:=by kernel_rfl
  rw [hC] at hlen
  match cs,hlen,xs,hxl with
  | [c3, c4], _, [x3, x4], _ =>
    have f3:DataW.trod encH Tryz.prog w base spare held k 9 (([c3,c4].drop 0).take (Tryz.prog.cellsOf 9))=[x3,x4][0]?:=hx 0 _ rfl
    have f4:DataW.trod encH Tryz.prog w base spare held k 49 (([c3,c4].drop 1).take (Tryz.prog.cellsOf 49))=[x3,x4][1]?:=hx 1 _ rfl
    rw [hS] at f3
    rw [hK] at f4
    obtain ⟨b3,h3,_,_⟩:=DataW.trod_string Tryz.underlying9 f3
    simp at h3
    subst h3
    simp only [List.drop_succ_cons,List.drop_zero,List.take_succ_cons,List.take_zero] at f4
    obtain ⟨A,n,c,rfl⟩:=b7n Tryz.underlying49 f4
    obtain ⟨l,e,s,o,m',_⟩:=b9I Tryz.underlying49 1 (by kernel_rfl) (by omega) a7p (fun a=>by simp [a7p]) c8A (c7i Tryz.underlying3) f4
    exact ⟨⟨⟨b3.data.toList,l⟩,A,n,c⟩,rfl,e,s,o,m'⟩
end
theorem c5F {w:World} {B:Nat} {A:Option Addr} {c:Nat} {l:List MnI} (h:Sl w B 2 MnI.cells A l) (hc:l.length≤c) (hm:c≤maxLen) (hok:∀ x∈l,x.inOk w):Rep w (Env.just (c6Q w)) (.slice A l.length c) (mnsV (l.map (·.v))):=by
 have key:=c3q (w:=w) 2 (by omega) MnI.cells c6o (fun x=>mnF x.v) MnI.none l hc hm h (fun i j hi hj=>by
  have hg:l.getD i MnI.none=l[i]:=by rw [List.getD_eq_getElem?_getD,List.getElem?_eq_getElem hi];rfl
  rw [hg]
  obtain ⟨e,s,o,m⟩:=hok _ (List.getElem_mem hi)
  generalize l[i]=x at e s o m
  obtain ⟨v,A',n',c'⟩:=x
  simp only at e s o m
  subst e
  match j,hj with
  | 0,_=>exact .imm _
  | 1,_=>exact c1J s o (by unfold maxLen;omega))
 have e:mnsV (l.map (·.v))=.sl 2 l.length (fun i=>mnF (l.getD i MnI.none).v):=by
  show HV.sl 2 (l.map (·.v)).length (fun i=>mnF ((l.map (·.v)).getD i default))=_
  rw [List.length_map]
  congr 1
  funext i
  show mnF ((l.map (·.v)).getD i default)=_
  congr 1
  rw [List.getD_eq_getElem?_getD,List.getD_eq_getElem?_getD,List.getElem?_map]
  cases l[i]? <;> rfl
 rw [e];exact key
theorem b0E (W:World) (hL:LibW W) (s:ByteArray) (hs:s.size≤maxLen) (o:ByteArray) (ho:o.size≤maxLen) (a:Option Addr) (n c:Nat) (l:List MnI) (hn:l.length=n) (sl:Sl W W.heap.size 2 MnI.cells a l) (hc:n≤c) (hm:c≤9223372036854775807) (hok:∀ x∈l,x.inOk W) :
  Calls Tryz.prog 3 #[.string s,.string o,.slice a n c] W fun e w'=>e=.returned (.bool true)∧Below W.heap.size W w':=by
 subst hn
 have hs':s.data.toList.length≤9223372036854775807:=by have:s.size=s.data.toList.length:=rfl;rw [←this];unfold maxLen at hs;omega
 have ho':o.data.toList.length≤9223372036854775807:=by have:o.size=o.data.toList.length:=rfl;rw [←this];unfold maxLen at ho;omega
 exact c1a (b7x s.data.toList o.data.toList (l.map (·.v)) hs' ho') W [.string s,.string o,.slice a l.length c] ⟨.imm _,.imm _,c5F sl hc (by unfold maxLen;omega) hok,trivial⟩ hL
end Go.Proofs.YtdbbbafiegpbpaaGreatDoor
namespace Go.Proofs.YtdbbbafiegpbpaaGreatDoor
set_option linter.unusedSimpArgs false
set_option linter.unusedVariables false
set_option maxRecDepth 100000
open Go.RowKit
theorem a8q {W:World} {l:List (String×DataW Unit)} (h:laidMetH Tryz.prog l W) (hl:(l.all fun x=>x.2.handleName?.isNone)=true) (n:String) (d:DataW Unit) (hf:l.filter (fun x=>x.1 == n)=[(n,d)]):laidMet Tryz.prog [(n,d)] W:=by
 rw [MakeChecks.laidMetH_plain _ _ _ hl] at h
 have:=laidMet.filter (fun x=>x.1 == n) h
 rwa [hf] at this
theorem b2o {W:World} {n:String} {name:String} {d:DataW Unit} {g:Nat} {t:TypeId} {ms:Array (String×TypeId)} (hg:Tryz.prog.globalNamed n=some g) (hty:(Tryz.prog.globals[g]?).map (·.type)=some t) (ht:Tryz.prog.underlying t=some (.interface ms))
  (h:laidMet Tryz.prog [(n,.iface name d)] W):∃ tp p,W.var? Tryz.prog n=some #[.iface tp p]:=by
 obtain ⟨ps,⟨g',t',cs,fuel,p,q,hg',ht',hvar,hd,_,_⟩,_⟩:=h
 obtain rfl:=Option.some.inj (hg.symm.trans hg')
 obtain rfl:=Option.some.inj (hty.symm.trans ht')
 obtain ⟨f1,u,v,hc,_⟩:=iface_of_trod ht hd
 refine ⟨u,v,?_⟩
 rw [hvar]
 congr 1
 apply Array.ext'
 exact hc
theorem b0H {H:Type} {enc:TypeId×Value→H} {a:Assume} {C:Checked} {os:Os} {f:FuncId} {fn:Func} {s:ChangeSpec} {conds:List PathCond} {apart fresh handsOn again:Bool} {X:World→Array Value→Prop}
  (hX:∀ (w w':World) (args:Array Value),w.heap=w'.heap→X w args→X w' args)
  (own:ownKnob C.prog.godebug=none) (started:os.Started) (noInit:C.prog.inits.idxOf? f=none) (hfn:C.prog.funcs[f]?=some fn)
  (wit:∃ (w:World) (tape:Tape) (i:Input),w.os=os∧(w.forCall tape i).Shaped C.prog∧i.vars=[]∧Input.okWide C.prog (w.forCall tape i) .any w.heap.size f i ∧
   ((s.pre enc C.prog fn conds apart (w.forCall tape i).memory i.args∧X (w.forCall tape i).memory i.args)∧sizedMet enc C.prog fn (OpenSpec.ofChange s) apart (w.forCall tape i).memory i.args)∧a.holds C.prog (lone (Frame.enter C.prog f i.args .normal) [] (w.forCall tape i)))
  (con:∀ (W:World) (base:Nat) (args:Array Value) (ds gs:List (DataW H)) (before:List MemPlace),
   (∀ (j:Nat) t v,fn.params[j]?=some t→args[j]?=some v→Value.okWide C.prog W .any base t v) →
   DataW.Whole enc C.prog fn.params.toList s.vars apart W args.toList ds gs before →
   conds.all (PathCond.test C.prog ⟨fn.params.toList,ds,s.plain.varTypes C.prog,gs⟩)=true→X W args→W.ShapedOpen C.prog →
   Calls C.prog f args W fun e W'=>∃ v,e=.returned v∧s.post enc C.prog fn apart fresh handsOn again W args v W') :
  ReturnsInHanded a C os f .any (fun w args=>(s.pre enc C.prog fn conds apart w args∧X w args)∧sizedMet enc C.prog fn (OpenSpec.ofChange s) apart w args) (s.post enc C.prog fn apart fresh handsOn again):=by
 refine returnsInHanded_of_calls own started noInit wit fun w tape i _ hsh _ hok hpre _=>?_
 obtain ⟨_,_,_,fn',hfn',_,_,_,_,hval⟩:=hok
 obtain rfl:fn'=fn:=Option.some.inj (hfn'.symm.trans hfn)
 obtain ⟨⟨⟨ds,gs,before,hw,hc⟩,hx⟩,_⟩:=hpre
 refine (con (w.forCall tape i) w.heap.size i.args ds gs before hval (DataW.Whole.of_heap (w':=w.forCall tape i) (by rfl) hw) hc (hX _ _ _ (by rfl) hx) hsh).mono fun e W' ⟨v,he,hp⟩=>?_
 subst he
 exact ChangeSpec.post_blind hp
theorem c7t {W:World} (hs:W.ShapedOpen Tryz.prog):∃ m,W.cell? ⟨1,0,none⟩=some (.int .i64 m) :=
 cell_of_shapedOpen_int (zero:=#[.int .i64 0]) (t:=3) (k:=.i64) hs (of_decide_eq_true (by kernel_rfl)) (by kernel_rfl) rfl (by kernel_rfl) (by kernel_rfl) Tryz.underlying3
theorem c5E {W:World} {l:List (String×DataW Unit)} (hs:W.ShapedOpen Tryz.prog) (h:laidMetH Tryz.prog l W) (hl:(l.all fun x=>x.2.handleName?.isNone)=true)
  (h1:l.filter (fun x=>x.1 == "internal/strconv.uint64pow10")=[("internal/strconv.uint64pow10", Rows.laid_internal_strconv_uint64pow10)])
  (h2:l.filter (fun x=>x.1 == "strconv.ErrSyntax")=[("strconv.ErrSyntax", Rows.laid_strconv_ErrSyntax)])
  (h3:l.filter (fun x=>x.1 == "strconv.ErrRange")=[("strconv.ErrRange", Rows.laid_strconv_ErrRange)])
  (h4:l.filter (fun x=>x.1 == "math/bits.deBruijn64tab")=[("math/bits.deBruijn64tab", Rows.laid_math_bits_deBruijn64tab)]):LibW W:=by
 have t:=a8q h hl _ _ h1
 have a:=a8q h hl _ _ h2
 have b:=a8q h hl _ _ h3
 have t4:=a8q h hl _ _ h4
 have t4':Lib.TabIs Tryz.prog W "math/bits.deBruijn64tab" .u8 (Lib.deBruijn64tab.map (fun n:Nat=>(n:Int))) :=
  Lib.tabIs_of_head (zs:=Lib.deBruijn64tab.map (fun n:Nat=>(n:Int))) (k:=.u8) (g:=0) (t:=171) (e:=5) (n:=64) (by kernel_rfl) (by kernel_rfl) Tryz.underlying171 Tryz.underlying5 (by kernel_rfl) (by kernel_rfl) t4
 have t':Lib.TabIs Tryz.prog W "internal/strconv.uint64pow10" .u64 Lib.pow10Tab :=
  Lib.tabIs_of_head (zs:=Lib.pow10Tab) (k:=.u64) (g:=4) (t:=221) (e:=44) (n:=20) (by kernel_rfl) (by kernel_rfl) Tryz.underlying221 Tryz.underlying44 (by kernel_rfl) (by kernel_rfl) t
 have a':=b2o (g:=2) (t:=192) (by kernel_rfl) (by kernel_rfl) Tryz.underlying192 a
 have b':=b2o (g:=3) (t:=192) (by kernel_rfl) (by kernel_rfl) Tryz.underlying192 b
 have lt:∀ {n:String} {g:Nat} {x:Array Value},Tryz.prog.globalNamed n=some g→W.var? Tryz.prog n=some x→g < W.heap.size:=by
  intro n g x hg hv
  unfold World.var? at hv
  rw [hg] at hv
  simp only [Option.bind_some] at hv
  rcases Nat.lt_or_ge g W.heap.size with h | h
  ·exact h
  ·rw [Array.getElem?_eq_none h] at hv;cases hv
 have m':=c7t hs
 refine ⟨fun k hk=>?_,fun _=>t',fun _=>a',fun _=>b',fun g hg=>by
  obtain rfl:=Option.some.inj ((show Tryz.prog.globalNamed "internal/bytealg.MaxLen" = some 1 by kernel_rfl).symm.trans hg)
  exact m',fun _=>t4'⟩
 obtain ⟨n,hn,hg⟩:=hk
 simp only [a3i,List.mem_cons,List.not_mem_nil,or_false] at hn
 rcases hn with rfl | rfl | rfl | rfl | rfl
 ·exact lt hg t'
 ·obtain ⟨_,_,a'⟩:=a';exact lt hg a'
 ·obtain ⟨_,_,b'⟩:=b';exact lt hg b'
 ·obtain rfl:=Option.some.inj ((show Tryz.prog.globalNamed "internal/bytealg.MaxLen" = some 1 by kernel_rfl).symm.trans hg)
  obtain ⟨m,hm⟩:=m'
  exact World.block_lt_of_cell? W _ hm
 ·exact lt hg t4'
theorem c4Y {W:World} (hs:W.ShapedOpen Tryz.prog) (h:laidMetH Tryz.prog Rows.dfaEqualRow.laid W):LibW W:=c5E hs h (by kernel_rfl) (by kernel_rfl) (by kernel_rfl) (by kernel_rfl) (by kernel_rfl)
end Go.Proofs.YtdbbbafiegpbpaaGreatDoor
